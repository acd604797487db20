/- Parts of the proof. -/
import Derived.Test.YtfemnfpbdbbacaaGreatCJn13
import Derived.Test.YtfemnfpbdbbacaaGreatCJn6
import Derived.Test.YtfemnfpbdbbacaaGreatCDix
import Derived.Test.YtfemnfpbdbbacaaGreatCJn40
import Derived.Test.YtfemnfpbdbbacaaGreatCJn31
import Derived.Test.YtfemnfpbdbbacaaGreatCJn8
import Derived.Test.YtfemnfpbdbbacaaGreatCJn27
import Derived.Test.YtfemnfpbdbbacaaGreatCJn29
import Derived.Test.YtfemnfpbdbbacaaGreatCJn43
import Derived.Test.YtfemnfpbdbbacaaGreatCDso
import Derived.Test.YtfemnfpbdbbacaaGreatCJn11
import Derived.Test.YtfemnfpbdbbacaaGreatCIm4
import Derived.Test.YtfemnfpbdbbacaaGreatCJn46
import Derived.Lib.SlicesCompact
set_option linter.unusedSimpArgs false
set_option linter.unusedVariables false
namespace Go.Proofs.YtfemnfpbdbbacaaGreat
section
open Go Go.RowKit Go.Sort
theorem Si {P : Nat → Prop} (k : Nat) (h : P k) : ∃ m, m ≤ k ∧ P m ∧ ∀ j, j < m → ¬ P j := by
 induction k using Nat.strongRecOn with
 | ind k ih =>
  by_cases hj : ∃ j, j < k ∧ P j
  ·obtain ⟨j, h1, h2⟩ := hj;obtain ⟨m, g1, g2, g3⟩ := ih j h1 h2;exact ⟨m, by omega, g2, g3⟩
  ·exact ⟨k, Nat.le_refl k, h, fun j h1 h2 => hj ⟨j, h1, h2⟩⟩
section
variable {N : Net}
end
end
section
def mnI (a b : Int) : Int := if a < b then a else b
section
variable (N : Net)
def rlx (kv : Int) (v : Nat) : Nat → List Int → List Int
 | 0, X => X
 | j + 1, X => (rlx kv v j X).set (nd N v j) (mnI (gi (rlx kv v j X) (nd N v j)) kv)
def i8 (K : List Int) (fr : Nat → Bool) : Nat → List Int
 | 0 => K
 | v + 1 => if fr v = true then rlx N (gi K v) v (gl N.ends v).length (i8 K fr v) else i8 K fr v
def sE (fr : Nat → Bool) : Nat → Nat
 | 0 => 0
 | v + 1 => if fr v = true then sE fr v + (gl N.ends v).length else sE fr v
def elS : Nat → List Int × (Nat → Bool)
 | 0 => (N.ids, fun _ => true)
 | t + 1 => (i8 N (elS t).1 (elS t).2 N.ends.length, fun v => decide (gi (i8 N (elS t).1 (elS t).2 N.ends.length) v < gi (elS t).1 v))
def knL (t : Nat) : List Int := (elS N t).1
def frE (t : Nat) : Nat → Bool := (elS N t).2
def msE : Nat → Nat
 | 0 => 0
 | t + 1 => msE t + sE N (frE N t) N.ends.length
end
section
variable {N : Net}
theorem ku (t : Nat) : knL N (t + 1) = i8 N (knL N t) (frE N t) N.ends.length := rfl
theorem uq (t v : Nat) : frE N (t + 1) v = decide (gi (knL N (t + 1)) v < gi (knL N t) v) := rfl
theorem qf (kv : Int) (v : Nat) : ∀ (j : Nat) (X : List Int), (rlx N kv v j X).length = X.length
 | 0, _ => rfl
 | j + 1, X => by rw [rlx, List.length_set, qf kv v j X]
theorem o9 (K : List Int) (fr : Nat → Bool) : ∀ k, (i8 N K fr k).length = K.length
 | 0 => rfl
 | k + 1 => by
  rw [i8];split
  ·rw [qf, o9 K fr k]
  ·exact o9 K fr k
theorem qt (X : List Int) (x u : Nat) (c : Int) : gi (X.set x c) u = if u = x ∧ x < X.length then c else gi X u := by
 by_cases h : x < X.length
 ·rw [Kv h]
  by_cases hu : u = x
  ·rw [if_pos hu, if_pos ⟨hu, h⟩]
  ·rw [if_neg hu, if_neg (fun hh => hu hh.1)]
 ·rw [List.set_eq_of_length_le (by omega), if_neg (fun hh => h hh.2)]
theorem Rm (kv : Int) (v w : Nat) : ∀ (j : Nat) (X : List Int), gi (rlx N kv v j X) w ≤ gi X w
 | 0, _ => Int.le_refl _
 | j + 1, X => by
  have ih := Rm kv v w j X;rw [rlx, qt];split
  ·rename_i h
   obtain ⟨rfl, -⟩ := h;unfold mnI;split <;> omega
  ·exact ih
theorem Rl (kv : Int) (v w : Nat) : ∀ (j : Nat) (X : List Int), gi (rlx N kv v j X) w = gi X w ∨ gi (rlx N kv v j X) w = kv
 | 0, _ => .inl rfl
 | j + 1, X => by
  have ih := Rl kv v w j X;rw [rlx, qt];split
  ·rename_i h
   obtain ⟨rfl, -⟩ := h;unfold mnI;split
   ·exact ih
   ·exact .inr rfl
  ·exact ih
theorem G5 (kv : Int) (v : Nat) (X : List Int) {i : Nat} (hx : nd N v i < X.length) : ∀ j, i < j → gi (rlx N kv v j X) (nd N v i) ≤ kv
 | j + 1, hij => by
  by_cases h : i = j
  ·subst h;rw [rlx, qt, if_pos ⟨rfl, by rw [qf]; exact hx⟩];unfold mnI;split <;> omega
  ·have ih := G5 kv v X hx j (by omega)
   have h2 : gi (rlx N kv v (j + 1) X) (nd N v i) ≤ gi (rlx N kv v j X) (nd N v i) := by
    rw [rlx, qt];split
    ·rename_i h3
     rw [← h3.1];unfold mnI;split <;> omega
    ·exact Int.le_refl _
   omega
theorem vy (K : List Int) (fr : Nat → Bool) (w : Nat) : ∀ {k k' : Nat}, k ≤ k' → gi (i8 N K fr k') w ≤ gi (i8 N K fr k) w
 | k, 0, h => by rw [show k = 0 by omega]; exact Int.le_refl _
 | k, k' + 1, h => by
  by_cases hk : k = k' + 1
  ·rw [hk]; exact Int.le_refl _
  ·have ih := vy K fr w (show k ≤ k' by omega);rw [i8];split
   ·exact Int.le_trans (Rm _ _ _ _ _) ih
   ·exact ih
theorem U6 (K : List Int) (fr : Nat → Bool) (w k : Nat) : gi (i8 N K fr k) w ≤ gi K w := vy K fr w (Nat.zero_le k)
theorem Di {K : List Int} {fr : Nat → Bool} {v i k : Nat} (hv : v < k) (hf : fr v = true) (hi : i < (gl N.ends v).length) (hx : nd N v i < K.length) : gi (i8 N K fr k) (nd N v i) ≤ gi K v := by
 refine Int.le_trans (vy K fr _ (show v + 1 ≤ k by omega)) ?_;rw [i8, if_pos hf];exact G5 _ _ _ (by rw [o9]; exact hx) _ hi
theorem L6 {K : List Int} {fr : Nat → Bool} {w : Nat} (hw : w < N.ends.length) : ∀ k, k ≤ N.ends.length → ∃ u, u < N.ends.length ∧ gi (i8 N K fr k) w = gi K u
 | 0, _ => ⟨w, hw, rfl⟩
 | k + 1, hk => by
  obtain ⟨u, hu, he⟩ := L6 (K := K) (fr := fr) hw k (by omega);rw [i8];split
  ·rcases Rl (N := N) (gi K k) k w (gl N.ends k).length (i8 N K fr k) with h | h
   ·exact ⟨u, hu, by rw [h, he]⟩
   ·exact ⟨k, by omega, h⟩
  ·exact ⟨u, hu, he⟩
theorem jz (h : N.ids.length = N.ends.length) : ∀ t, (knL N t).length = N.ends.length
 | 0 => h
 | t + 1 => by rw [ku, o9, jz h t]
theorem ms (w : Nat) : ∀ {t t' : Nat}, t ≤ t' → gi (knL N t') w ≤ gi (knL N t) w
 | t, 0, h => by rw [show t = 0 by omega]; exact Int.le_refl _
 | t, t' + 1, h => by
  by_cases ht : t = t' + 1
  ·rw [ht]; exact Int.le_refl _
  ·exact Int.le_trans (by rw [ku]; exact U6 _ _ _ _) (ms w (show t ≤ t' by omega))
theorem uj (hs : Sym N.ends) (h : N.ids.length = N.ends.length) {v i : Nat} (hv : v < N.ends.length) (hi : i < (gl N.ends v).length) : ∀ t, gi (knL N (t + 1)) (nd N v i) ≤ gi (knL N t) v
 | 0 => by
  obtain ⟨q1, -⟩ := ej hs hv hi;rw [ku];exact Di hv rfl hi (by rw [jz h]; exact q1)
 | t + 1 => by
  obtain ⟨q1, -⟩ := ej hs hv hi
  cases hf : frE N (t + 1) v with
  | true =>
   rw [ku];exact Di hv hf hi (by rw [jz h]; exact q1)
  | false =>
   have h1 := uj hs h hv hi t;have h2 := ms (N := N) (nd N v i) (show t + 1 ≤ t + 1 + 1 by omega);have h3 := ms (N := N) v (show t ≤ t + 1 by omega);rw [uq, decide_eq_false_iff_not] at hf;omega
theorem Kl (h : N.ids.length = N.ends.length) {w : Nat} (hw : w < N.ends.length) : ∀ t, ∃ u, u < N.ends.length ∧ gi (knL N t) w = gi N.ids u
 | 0 => ⟨w, hw, rfl⟩
 | t + 1 => by
  obtain ⟨u, hu, he⟩ := L6 (K := knL N t) (fr := frE N t) hw N.ends.length (Nat.le_refl _);obtain ⟨x, hx, he2⟩ := Kl h hu t;exact ⟨x, hx, by rw [ku, he, he2]⟩
theorem Hz (hs : Sym N.ends) (h : N.ids.length = N.ends.length) {u : Nat} (hu : u < N.ends.length) : ∀ (d t w : Nat), w < N.ends.length → gi (da N u) w = d → d ≤ t → gi (knL N t) w ≤ gi N.ids u
 | 0, t, w, hw, hd, _ => by
  have := (d7 hs hu).zero w hw (by simpa using hd);rw [this];exact ms u (Nat.zero_le t)
 | d + 1, t, w, hw, hd, ht => by
  obtain ⟨j, hj, hb⟩ := (d7 hs hu).back w hw (by omega);obtain ⟨q1, q2, q3, q4, q5⟩ := ej hs hw hj;have ih := Hz hs h hu d (t - 1) (nd N w j) q1 (by omega) (by omega);have h2 := uj hs h q1 q2 (t - 1);rw [q3, show t - 1 + 1 = t by omega] at h2;omega
theorem Ly {fr : Nat → Bool} : ∀ {k : Nat}, sE N fr k = 0 → ∀ v, v < k → fr v = true → (gl N.ends v).length = 0
 | k + 1, h, v, hv, hf => by
  rw [sE] at h
  by_cases hvk : v = k
  ·subst hvk;rw [if_pos hf] at h; omega
  ·refine Ly (k := k) ?_ v (by omega) hf;split at h
   ·omega
   ·exact h
theorem Wq {fr : Nat → Bool} : ∀ (k : Nat), (∀ v, v < k → fr v = false) → sE N fr k = 0
 | 0, _ => rfl
 | k + 1, h => by rw [sE, if_neg (by rw [h k (Nat.lt_succ_self k)]; decide), Wq k fun v hv => h v (by omega)]
theorem sb {K : List Int} {fr : Nat → Bool} (h : ∀ v, v < N.ends.length → fr v = true → (gl N.ends v).length = 0) : ∀ k, k ≤ N.ends.length → i8 N K fr k = K
 | 0, _ => rfl
 | k + 1, hk => by
  rw [i8];split
  ·rename_i hf
   rw [h k (by omega) hf, rlx, sb h k (by omega)]
  ·exact sb h k (by omega)
theorem Hy (hs : Sym N.ends) (h : N.ids.length = N.ends.length) {t : Nat} (hz : sE N (frE N t) N.ends.length = 0) {a : Nat} (ha : a < N.ends.length) : ∀ (d w : Nat), w < N.ends.length → gi (da N a) w = d → gi (knL N t) w = gi (knL N t) a
 | 0, w, hw, hd => by rw [(d7 hs ha).zero w hw (by simpa using hd)]
 | d + 1, w, hw, hd => by
  have hst : knL N (t + 1) = knL N t := by rw [ku]; exact sb (Ly hz) _ (Nat.le_refl _)
  obtain ⟨j, hj, hb⟩ := (d7 hs ha).back w hw (by omega);obtain ⟨q1, q2, q3, q4, q5⟩ := ej hs hw hj;have ih := Hy hs h hz ha d (nd N w j) q1 (by omega);have h1 := uj hs h hw hj t;have h2 := uj hs h q1 q2 t;rw [q3] at h2;rw [hst] at h1 h2;omega
theorem M4 (hs : Sym N.ends) (h : N.ids.length = N.ends.length) (hc : ∀ w, w < N.ends.length → 0 ≤ gi (da N 0) w) (hn : 0 < N.ends.length) {t : Nat} (hz : sE N (frE N t) N.ends.length = 0) : (∀ w, w < N.ends.length → gi (knL N t) w = gi (knL N t) 0) ∧ ∀ u, u < N.ends.length → gi (knL N t) 0 ≤ gi N.ids u := by
 have h1 : ∀ w, w < N.ends.length → gi (knL N t) w = gi (knL N t) 0 := fun w hw => by
  obtain ⟨d, hd⟩ := Int.eq_ofNat_of_zero_le (hc w hw);exact Hy hs h hz hn d w hw hd
 refine ⟨h1, fun u hu => ?_⟩;have := ms (N := N) u (Nat.zero_le t);rw [h1 u hu] at this;exact this
theorem Sn (hs : Sym N.ends) (h : N.ids.length = N.ends.length) {D : Nat} (hD : ∀ u w, u < N.ends.length → w < N.ends.length → 0 ≤ gi (da N u) w ∧ gi (da N u) w ≤ D) : ∃ T, T ≤ D + 1 ∧ sE N (frE N T) N.ends.length = 0 ∧ ∀ s, s < T → sE N (frE N s) N.ends.length ≠ 0 := by
 have hz : sE N (frE N (D + 1)) N.ends.length = 0 := Wq _ fun v hv => by
  rw [uq, decide_eq_false_iff_not];obtain ⟨u, hu, he⟩ := Kl h hv (D + 1);obtain ⟨h1, h2⟩ := hD u v hu hv;obtain ⟨d, hd⟩ := Int.eq_ofNat_of_zero_le h1;have h3 := Hz hs h hu d D v hv hd (by omega);rw [he]; omega
 obtain ⟨T, h1, h2, h3⟩ := Si (P := fun t => sE N (frE N t) N.ends.length = 0) (D + 1) hz;exact ⟨T, h1, h2, h3⟩
theorem Yl (t v : Nat) : frE N (t + 1) v = !(gi (knL N (t + 1)) v == gi (knL N t) v) := by
 rw [uq];have := ms (N := N) v (show t ≤ t + 1 by omega);rw [Bool.eq_iff_iff, decide_eq_true_iff, Bool.not_eq_true', beq_eq_false_iff_ne];omega
end
end
section
theorem Db : ∀ (A B : List Int), A.Nodup → (∀ x ∈ A, x ∈ B) → A.length ≤ B.length
 | [], _, _, _ => Nat.zero_le _
 | a :: A, B, hn, hs => by
  have ha := hs a List.mem_cons_self;have hn2 := List.nodup_cons.1 hn;have ih := Db A (B.erase a) hn2.2 fun x hx => (List.mem_erase_of_ne (fun (e : x = a) => hn2.1 (by rw [← e]; exact hx))).2 (hs x (List.mem_cons_of_mem _ hx));have h1 := List.length_erase_of_mem ha;have h2 := List.length_pos_of_mem ha;rw [List.length_cons];omega
def j7 (ws : List Int) (L : List Int) : Nat → List Int
 | 0 => L
 | j + 1 => if pn (j7 ws L j) (gi ws j) = true then j7 ws L j else j7 ws L j ++ [gi ws j]
def rcR (N : Net) : Nat → List Int
 | 0 => [0]
 | k + 1 => if k < (rcR N k).length then j7 (iu N (gi (rcR N k) k).toNat (gl N.ends (gi (rcR N k) k).toNat).length) (rcR N k) (gl N.ends (gi (rcR N k) k).toNat).length else rcR N k
theorem Jc {ws L : List Int} : ∀ j, ∃ M, j7 ws L j = L ++ M
 | 0 => ⟨[], by rw [j7, List.append_nil]⟩
 | j + 1 => by
  obtain ⟨M, h⟩ := Jc (ws := ws) (L := L) j;rw [j7];split
  ·exact ⟨M, h⟩
  ·exact ⟨M ++ [gi ws j], by rw [h, List.append_assoc]⟩
theorem Cf {ws L : List Int} (h : L.Nodup) : ∀ j, (j7 ws L j).Nodup
 | 0 => h
 | j + 1 => by
  have ih := Cf (ws := ws) h j;rw [j7];split
  ·exact ih
  ·rename_i h1
   rw [List.nodup_append];refine ⟨ih, by simp, fun a ha b hb => ?_⟩;rw [List.mem_singleton] at hb;rw [hb];exact fun e => h1 (mz.2 (e ▸ ha))
theorem Cg {ws L : List Int} {x : Int} : ∀ {j : Nat}, x ∈ j7 ws L j → x ∈ L ∨ ∃ i, i < j ∧ x = gi ws i
 | 0, h => .inl h
 | j + 1, h => by
  rw [j7] at h;split at h
  ·rcases Cg h with h1 | ⟨i, h1, h2⟩
   ·exact .inl h1
   ·exact .inr ⟨i, by omega, h2⟩
  ·rcases List.mem_append.1 h with h1 | h1
   ·rcases Cg h1 with h1 | ⟨i, h1, h2⟩
    ·exact .inl h1
    ·exact .inr ⟨i, by omega, h2⟩
   ·exact .inr ⟨j, by omega, List.mem_singleton.1 h1⟩
theorem Je {ws L : List Int} : ∀ {j i : Nat}, i < j → gi ws i ∈ j7 ws L j
 | j + 1, i, h => by
  rw [j7]
  by_cases hij : i = j
  ·subst hij;split
   ·rename_i h1; exact mz.1 h1
   ·exact List.mem_append.2 (.inr (List.mem_singleton.2 rfl))
  ·have ih := Je (ws := ws) (L := L) (show i < j by omega);split
   ·exact ih
   ·exact List.mem_append.2 (.inl ih)
theorem Rz {N : Net} {v i : Nat} (h : i < (gl N.ends v).length) : gi (iu N v (gl N.ends v).length) i = (gp (gl N.ends v) i).1 := by
 unfold iu;rw [List.take_length];simp [gi, gp, h]
section
variable {N : Net}
structure RcI (N : Net) (L : List Int) (k : Nat) : Prop where
 nod : L.Nodup
 rng : ∀ x ∈ L, 0 ≤ x ∧ x < N.ends.length ∧ 0 ≤ gi (da N 0) x.toNat
 zero : (0 : Int) ∈ L
 closed : ∀ i, i < k → i < L.length → ∀ j, j < (gl N.ends (gi L i).toNat).length → ((nd N (gi L i).toNat j : Nat) : Int) ∈ L
theorem qg (hs : Sym N.ends) (hn : 0 < N.ends.length) : ∀ k, RcI N (rcR N k) k
 | 0 => by
  refine ⟨by simp [rcR], fun x hx => ?_, by simp [rcR], fun i hi => absurd hi (Nat.not_lt_zero _)⟩;have hx : x = 0 := by simpa [rcR] using hx
  subst hx;exact ⟨by omega, by omega, by rw [Int.toNat_zero, (d7 hs hn).root]; omega⟩
 | k + 1 => by
  have ih := qg hs hn k
  by_cases hk : k < (rcR N k).length
  ·have he : rcR N (k + 1) = j7 (iu N (gi (rcR N k) k).toNat (gl N.ends (gi (rcR N k) k).toNat).length) (rcR N k) (gl N.ends (gi (rcR N k) k).toNat).length := by rw [rcR, if_pos hk]
   obtain ⟨M, hM⟩ := Jc (ws := iu N (gi (rcR N k) k).toNat (gl N.ends (gi (rcR N k) k).toNat).length) (L := rcR N k) (gl N.ends (gi (rcR N k) k).toNat).length;rw [← he] at hM;have hmem : gi (rcR N k) k ∈ rcR N k := by rw [bn hk]; exact List.getElem_mem hk
   obtain ⟨r1, r2, r3⟩ := ih.rng _ hmem
   have hgi : ∀ i, i < (rcR N k).length → gi (rcR N (k + 1)) i = gi (rcR N k) i := fun i hi => by
    rw [hM, bn (by rw [List.length_append]; omega), bn hi, List.getElem_append_left hi]
   have hnb : ∀ j, j < (gl N.ends (gi (rcR N k) k).toNat).length → gi (iu N (gi (rcR N k) k).toNat (gl N.ends (gi (rcR N k) k).toNat).length) j = ((nd N (gi (rcR N k) k).toNat j : Nat) : Int) ∧ nd N (gi (rcR N k) k).toNat j < N.ends.length := fun j hj => by
    obtain ⟨q1, -, -, -, q5⟩ := ej hs (show (gi (rcR N k) k).toNat < N.ends.length by omega) hj;exact ⟨by rw [Rz hj, q5], q1⟩
   refine ⟨by rw [he]; exact Cf ih.nod _, fun x hx => ?_, by rw [hM]; exact List.mem_append.2 (.inl ih.zero), fun i hi hil j hj => ?_⟩
   ·rw [he] at hx
    rcases Cg hx with h1 | ⟨j, hj, hx2⟩
    ·exact ih.rng x h1
    ·obtain ⟨g1, g2⟩ := hnb j hj;rw [hx2, g1];have := (d7 hs hn).step _ (show (gi (rcR N k) k).toNat < N.ends.length by omega) r3 j hj;exact ⟨by omega, by omega, by rw [Int.toNat_natCast]; exact this.1⟩
   ·by_cases hik : i = k
    ·subst hik;rw [hgi _ hk] at hj ⊢;rw [← (hnb j hj).1, he];exact Je hj
    ·have hi2 : i < (rcR N k).length := by omega
     rw [hgi _ hi2] at hj ⊢;rw [hM];exact List.mem_append.2 (.inl (ih.closed i (by omega) hi2 j hj))
  ·have he : rcR N (k + 1) = rcR N k := by rw [rcR, if_neg hk]
   rw [he];exact ⟨ih.nod, ih.rng, ih.zero, fun i _ hil => ih.closed i (by omega) hil⟩
theorem yz (hs : Sym N.ends) (hn : 0 < N.ends.length) (k : Nat) : (rcR N k).length ≤ N.ends.length := pf _ _ (qg hs hn k).nod fun x hx => ⟨((qg hs hn k).rng x hx).1, ((qg hs hn k).rng x hx).2.1⟩
theorem G6 {k : Nat} (h : (rcR N k).length ≤ k) : ∀ m, rcR N (k + m) = rcR N k
 | 0 => rfl
 | m + 1 => by
  have ih := G6 h m;rw [show k + (m + 1) = k + m + 1 by omega, rcR, ih, if_neg (by omega)]
theorem U8 (hs : Sym N.ends) (hn : 0 < N.ends.length) {k : Nat} (h : (rcR N k).length ≤ k) (hk : k ≤ N.ends.length) : rcR N k = rcR N N.ends.length := by
 have := G6 h (N.ends.length - k);rw [show k + (N.ends.length - k) = N.ends.length by omega] at this;exact this.symm
theorem Ro (hs : Sym N.ends) (hn : 0 < N.ends.length) : (rcR N N.ends.length).length = N.ends.length ↔ em N 0 = true := by
 have hI := qg hs hn N.ends.length;rw [ik hs hn];constructor
 ·intro h w hw;have hp := As _ _ hI.nod (fun x hx => ⟨(hI.rng x hx).1, (hI.rng x hx).2.1⟩) h;have hm : (w : Int) ∈ rcR N N.ends.length := hp.mem_iff.2 (mi.2 ⟨by omega, by omega⟩);have := (hI.rng _ hm).2.2;rwa [Int.toNat_natCast] at this
 ·intro h
  have key : ∀ (d w : Nat), w < N.ends.length → gi (da N 0) w = d → (w : Int) ∈ rcR N N.ends.length := by
   intro d
   induction d with
   | zero =>
    intro w hw hd;rw [(d7 hs hn).zero w hw (by simpa using hd)];exact hI.zero
   | succ d ih =>
    intro w hw hd;obtain ⟨j, hj, hb⟩ := (d7 hs hn).back w hw (by omega);obtain ⟨q1, q2, q3, q4, q5⟩ := ej hs hw hj;have hm := ih (nd N w j) q1 (by omega);obtain ⟨i, hi, he⟩ := List.getElem_of_mem hm;rw [← bn hi] at he;have hl := yz hs hn N.ends.length;have := hI.closed i (by omega) hi (bk N w j) (by rw [he, Int.toNat_natCast]; exact q2);rw [he, Int.toNat_natCast, q3] at this;exact this
  have hsub : ∀ x ∈ du N.ends.length, x ∈ rcR N N.ends.length := fun x hx => by
   obtain ⟨h1, h2⟩ := mi.1 hx;obtain ⟨w, rfl⟩ := Int.eq_ofNat_of_zero_le h1;obtain ⟨d, hd⟩ := Int.eq_ofNat_of_zero_le (h w (by omega));exact key d w (by omega) hd
  have h1 := yz hs hn N.ends.length;have h2 := Db _ _ (zw N.ends.length) hsub;rw [db] at h2;omega
def jav (N : Net) (K : List Int) (X : List Int) (v : Int) : List Int := rlx N (gi K v.toNat) v.toNat (gl N.ends v.toNat).length X
def rqL (N : Net) (K L : List Int) : List Int := L.foldl (jav N K) K
def sqL (N : Net) (L : List Int) : Nat := L.foldl (fun s v => s + (gl N.ends v.toNat).length) 0
theorem Rg {K L : List Int} {q : Nat} (h : q < L.length) : rqL N K (L.take (q + 1)) = rlx N (gi K (gi L q).toNat) (gi L q).toNat (gl N.ends (gi L q).toNat).length (rqL N K (L.take q)) := by
 unfold rqL;rw [qc h, List.foldl_append];rfl
theorem Gy {L : List Int} {q : Nat} (h : q < L.length) : sqL N (L.take (q + 1)) = sqL N (L.take q) + (gl N.ends (gi L q).toNat).length := by
 unfold sqL;rw [qc h, List.foldl_append];rfl
def fsL (fr : Nat → Bool) (n : Nat) : List Int := (du n).filter fun v => fr v.toNat
theorem Ij (fr : Nat → Bool) (n : Nat) : fsL fr (n + 1) = if fr n = true then fsL fr n ++ [(n : Int)] else fsL fr n := by
 unfold fsL;rw [r5, List.filter_append]
 by_cases h : fr n = true
 ·rw [if_pos h];simp [h]
 ·rw [if_neg h];simp [h]
theorem Lz (K : List Int) (fr : Nat → Bool) : ∀ k, rqL N K (fsL fr k) = i8 N K fr k
 | 0 => rfl
 | k + 1 => by
  have ih := Lz K fr k;rw [Ij, i8];split
  ·unfold rqL at ih ⊢;rw [List.foldl_append, ih];rfl
  ·exact ih
theorem Ex (fr : Nat → Bool) : ∀ k, sqL N (fsL fr k) = sE N fr k
 | 0 => rfl
 | k + 1 => by
  have ih := Ex fr k;rw [Ij, sE];split
  ·unfold sqL at ih ⊢;rw [List.foldl_append, ih];rfl
  ·exact ih
theorem Vu {fr : Nat → Bool} {n : Nat} {x : Int} : x ∈ fsL fr n ↔ 0 ≤ x ∧ x < n ∧ fr x.toNat = true := by
 unfold fsL;rw [List.mem_filter, mi, and_assoc]
theorem Vv (fr : Nat → Bool) (n : Nat) : (fsL fr n).length ≤ n := by
 have := List.length_filter_le (fun v : Int => fr v.toNat) (du n);rwa [db] at this
theorem S8 (n t : Nat) : (du n).filter (fun x => !(gi (knL N (t + 1)) x.toNat == gi (knL N t) x.toNat)) = fsL (frE N (t + 1)) n := by
 unfold fsL;refine List.filter_congr fun x _ => ?_;rw [Yl]
theorem S7 (n : Nat) : fsL (frE N 0) n = du n := by
 unfold fsL;exact List.filter_eq_self.2 fun x _ => rfl
theorem Re {B : Nat} (fr : Nat → Bool) (hB : ∀ v, (gl N.ends v).length ≤ B) : ∀ k, sE N fr k ≤ k * B
 | 0 => Nat.zero_le _
 | k + 1 => by
  have ih := Re fr hB k;have := hB k;rw [sE, Nat.add_mul];split <;> omega
theorem Ke {B n : Nat} (hn : N.ends.length ≤ n) (hB : ∀ v, (gl N.ends v).length ≤ B) : ∀ t, msE N t ≤ t * (n * B)
 | 0 => Nat.zero_le _
 | t + 1 => by
  have ih := Ke hn hB t;have h1 := Re (frE N t) hB N.ends.length;have h2 := Nat.mul_le_mul_right B hn;rw [msE, Nat.add_mul];omega
theorem Vk (a b : Int) : min a b = mnI a b := by unfold mnI; split <;> omega
theorem Sj (hg : bb N = true) (hi : N.ids.length = N.ends.length) (hc : em N 0 = true) : ∃ T : Nat, (T : Int) ≤ mx0 (j4 N) + 1 ∧ T ≤ 41 ∧ sE N (frE N T) N.ends.length = 0 ∧ ∀ s, s < T → sE N (frE N s) N.ends.length ≠ 0 := by
 have hs : Sym N.ends := (f8 hg).sym;have hn := dh hg
 have hb : mx0 (j4 N) < N.ends.length := by
  rcases Ff (j4 N) with h | h
  ·omega
  ·obtain ⟨v, hv, he⟩ : ∃ v, v ∈ List.range N.ends.length ∧ ecc N v = mx0 (j4 N) := List.mem_map.1 h;rw [← he];exact (ze hs (List.mem_range.1 hv)).2
 have h0 := Fe (j4 N);obtain ⟨D, hD⟩ := Int.eq_ofNat_of_zero_le h0;have hcc := (ik hs (show 0 < N.ends.length by omega)).1 hc
 obtain ⟨T, h1, h2, h3⟩ := Sn (D := D) hs hi fun u w hu hw => by
  refine ⟨v6 hs (show 0 < N.ends.length by omega) hu hcc w hw, ?_⟩;have h4 := Yn hs hu hw;have h5 : ecc N u ∈ j4 N := by unfold j4 tab; exact List.mem_map.2 ⟨u, List.mem_range.2 hu, rfl⟩
  have h6 := R4 h5;omega
 exact ⟨T, by omega, by omega, h2, h3⟩
end
end
end Go.Proofs.YtfemnfpbdbbacaaGreat
