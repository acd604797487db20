/- Parts of the proof. -/
import Derived.Test.YtolpiolnhgpjjaaGreatCJn36
import Derived.Test.YtolpiolnhgpjjaaGreatCJn15
import Derived.Test.YtolpiolnhgpjjaaGreatCJn24
import Derived.Test.YtolpiolnhgpjjaaGreatCJn28
import Derived.Test.YtolpiolnhgpjjaaGreatCJn22
import Derived.Test.YtolpiolnhgpjjaaGreatCJn19
set_option linter.unusedSimpArgs false
set_option linter.unusedVariables false
namespace Go.Proofs.YtolpiolnhgpjjaaGreat
section
theorem O2 {L M : List (Int × Int × Int × Int)} {j : Nat} (h : j < L.length) : gq (L ++ M) j = gq L j := by
 unfold gq; simp [List.getD_eq_getElem?_getD, List.getElem?_append_left h]
theorem O1 {L M : List (Int × Int × Int × Int)} {j : Nat} : gq (L ++ M) (j + L.length) = gq M j := by
 unfold gq; simp [List.getD_eq_getElem?_getD, List.getElem?_append_right (Nat.le_add_left _ _)]
def ctq (b : Int × Int × Int × Int → Bool) (L : List (Int × Int × Int × Int)) : Nat := ct (fun j => b (gq L j)) L.length
theorem Ia (b : Int × Int × Int × Int → Bool) (L M : List (Int × Int × Int × Int)) : ctq b (L ++ M) = ctq b L + ctq b M := by
 unfold ctq;rw [List.length_append, ud];rw [xy (c := fun j => b (gq L j)) L.length fun j hj => by rw [O2 hj]];rw [xy (c := fun j => b (gq M j)) M.length fun j _ => by rw [O1]]
section
variable {N : Net} (b : Int × Int × Int × Int → Bool)
theorem Af (k : Nat) : ∀ i, ctq b (edN N k i) = sm (fun i => if edP N k i = true ∧ b ((k : Int), (i : Int), (gp (gl N.ends k) i).1, (gp (gl N.ends k) i).2) = true then 1 else 0) i
 | 0 => rfl
 | i + 1 => by
  rw [edN, sm, ← Af k i]
  by_cases h : edP N k i = true
  ·rw [if_pos h, Ia];refine congrArg _ ?_;show 0 + (if b (gq [_] 0) = true then 1 else 0) = _;rw [Nat.zero_add]
   by_cases h2 : b ((k : Int), (i : Int), (gp (gl N.ends k) i).1, (gp (gl N.ends k) i).2) = true
   ·exact (if_pos h2).trans (if_pos ⟨h, h2⟩).symm
   ·exact (if_neg h2).trans (if_neg fun h3 => h2 h3.2).symm
  ·rw [if_neg h, if_neg fun h3 => h h3.1, Nat.add_zero]
theorem Ag : ∀ n, ctq b (edL N n) = sm (fun k => sm (fun i => if edP N k i = true ∧ b ((k : Int), (i : Int), (gp (gl N.ends k) i).1, (gp (gl N.ends k) i).2) = true then 1 else 0) (gl N.ends k).length) n
 | 0 => rfl
 | n + 1 => by rw [edL, Ia, sm, Ag n, Af]
end
theorem Ib : ∀ n, ct (fun _ => true) n = n
 | 0 => rfl
 | n + 1 => by rw [ct, Ib n]; rfl
section
variable {N : Net}
theorem Ae (hs : Sym N.ends) (hl : ∀ k i, k < N.ends.length → i < (gl N.ends k).length → (gp (gl N.ends k) i).1 ≠ k) (l : Nat → Int) : ctq (fun e => decide (l e.1.toNat = l e.2.2.1.toNat)) (edL N N.ends.length) = upC (adC N.ends) l N.ends.length := by
 rw [Ag];refine bg _ fun v hv => ?_
 have h1 : ∀ w, w < N.ends.length → (if v < w ∧ l v = l w then adC N.ends v w else 0) = sm (fun i => if (pt N.ends v i).1 = (w : Int) ∧ (v < w ∧ l v = l w) then 1 else 0) (dg N.ends v) := fun w _ => by
  by_cases h : v < w ∧ l v = l w
  ·rw [if_pos h];refine bg _ fun i _ => ?_
   by_cases h2 : (pt N.ends v i).1 = (w : Int)
   ·rw [if_pos h2, if_pos ⟨h2, h⟩]
   ·rw [if_neg h2, if_neg fun h3 => h2 h3.1]
  ·rw [if_neg h, bg (g := fun _ => 0) _ fun i _ => if_neg fun h3 => h h3.2, jo]
 rw [bg _ h1, pw];refine bg _ fun i hi => ?_;obtain ⟨b, j, e, hb, -, -⟩ := hs v i hv hi;have hne := hl v i hv hi;have e' : gp (gl N.ends v) i = ((b : Int), (j : Int)) := e;rw [e'] at hne
 have hp : edP N v i = decide (v < b) := by
  unfold edP;rw [e'];have h2 : ((v : Int) == (b : Int)) = false := by simp; exact fun h => hne (by simp [h])
  simp [h2]
 rw [e, e', hp]
 have h2 : ∀ w, w < N.ends.length → (if ((b : Int), (j : Int)).1 = (w : Int) ∧ (v < w ∧ l v = l w) then 1 else 0) = if w = b then (if v < b ∧ l v = l b then 1 else 0) else 0 := fun w _ => by
  by_cases h : w = b
  ·subst h; simp
  ·rw [if_neg h, if_neg fun h3 => h (by have := h3.1; simp at this; omega)]
 rw [bg _ h2, oo, if_pos hb];simp
theorem Rr (hs : Sym N.ends) (hl : ∀ k i, k < N.ends.length → i < (gl N.ends k).length → (gp (gl N.ends k) i).1 ≠ k) : (edL N N.ends.length).length = upA (adC N.ends) N.ends.length := by
 have h := Ae hs hl fun _ => 0;rw [Gz fun _ _ _ _ => rfl] at h;rw [← h];unfold ctq;exact (Ib _).symm
end
end
section
set_option maxHeartbeats 0
set_option maxRecDepth 8000
open Go Go.RowKit
def dz (N : Net) (col : List Int) (v : Nat) (x : Int) : Nat := sm (fun i => if gi col (gp (gl N.ends v) i).1.toNat = x then 1 else 0) (gl N.ends v).length
theorem zc {f : Nat → Nat} (h : ∀ i, f i ≤ 1) : ∀ n, sm f n ≤ n
 | 0 => Nat.le_refl _
 | n + 1 => by have := zc h n; have := h n; rw [sm]; omega
theorem M6 (N : Net) (col : List Int) (v : Nat) (x : Int) (m : Nat) : sm (fun i => if gi col (gp (gl N.ends v) i).1.toNat = x then 1 else 0) m ≤ m := zc (fun i => by split <;> omega) m
def zBDf11 := PLift.up (And.intro aq (And.intro bp (And.intro cr (And.intro b6 (And.intro bl (And.intro @if_pos.{1} (And.intro @cl (And.intro @bw (And.intro @ca (And.intro @ck @trivial))))))))))
theorem F9 : type_of% zBDf11.down := zBDf11.down
theorem Hm (b : Bool) : DCalls Tryz.prog 113 [.c (.p (.bool b))] (fun r => r = [.c (.p (.int .i64 (if b = true then 1 else 0)))]) := by
 refine am Tryz.func113 rfl (by rw [Tryz.ntmps113]; simp) fun w0 => ?_;rw [Tryz.ntmps113];have dX := F9;simp only [bq, bb, Arg.av, bj, bv, ints, ends];refine ab (dR fun K hK => ?_);(repeat refine eV ?_);refine aa (hK _ (wK [0] ?_));clear hK K;refine ab ?_
 cases b with
 | true =>
  refine ab (dR fun K hK => ?_);(repeat refine eV ?_);refine aa (hK _ (wK [3] ?_));clear hK K;refine dI ?_ ?_<;>intro hb
  ·refine ab (dR fun K hK => ?_);(repeat refine eV ?_);refine aa (hK _ (wK [2] ?_));clear hK K;exact aj (al Tryz.results113 (.one (.plain _ _ rfl)) (by decide) rfl)
  ·cases hb
 | false =>
  refine ab (dR fun K hK => ?_);(repeat refine eV ?_);refine aa (hK _ (wK [3] ?_));clear hK K;refine dI ?_ ?_<;>intro hb
  ·cases hb
  ·refine af ?_;show DW _ _ _ _ _;refine ab (dR fun K hK => ?_);(repeat refine eV ?_);refine aa (hK _ (wK [2] ?_));clear hK K;exact aj (al Tryz.results113 (.one (.plain _ _ rfl)) (by decide) rfl)
theorem ij (f : NF) (N : Net) (v : Nat) (o : Bool) (t : TypeId) (col : List Int) (x : Int) (hg : bn N = true) (hv : v < N.ends.length) (hl : col.length = N.ends.length) : DCalls Tryz.prog 120 [.agg (bj f N), .c (.p (.int .i64 v)), .c (.sl o t 1 (col.map iC)), .c (.p (.int .i64 x))] (fun r => r = [.c (.p (.int .i64 (dz N col v x : Nat)))]) := by
 obtain ⟨hs, hn, hids, hdg⟩ := b0 hg;have hdv := hdg v;obtain ⟨L, hL⟩ : ∃ L, L = atL col ((gl N.ends v).map Prod.fst) := ⟨_, rfl⟩;have hLl : L.length = (gl N.ends v).length := by rw [hL, Ig, List.length_map]
 have hLi : ∀ j, j < (gl N.ends v).length → gi L j = gi col (gp (gl N.ends v) j).1.toNat := fun j hj => by
  rw [cw (by omega)]; simp only [hL, atL, List.getElem_map]; rw [f6 hj]
 refine am Tryz.func120 rfl (by rw [Tryz.ntmps120]; simp) fun w0 => ?_;rw [Tryz.ntmps120];have dX := F9;simp only [bq, bb, Arg.av, bj, bv, ints, ends];refine ab (dR fun K hK => ?_);(repeat refine eV ?_);refine aa (hK _ (wK [1, 2, 3, 4] ?_));clear hK K;refine ab (dR fun K hK => ?_);(repeat refine eV ?_);refine aa (hK _ (wK [1, 2, 3, 4, 9] ?_));clear hK K;refine ab ?_;have dX := And.intro dX ((Eq.symm hL));refine ab (dR fun K hK => ?_);(repeat refine eV ?_);have dX := And.intro dX ((Eq.symm hL));refine cL rfl ⟨rfl, _, rfl⟩ (by omega) (by first | exact Rj) (Q5 ⟨false, f.t1, f.o2, f.t2, false, f.t3, false, f.t4⟩ N v o t col hg hv hl) ?_;rintro _ rfl;(repeat refine eV ?_);have dK := (Eq.symm hL);refine aa (hK _ (a7 [3, 9, 15, 16, 17] ?_));clear hK K;refine ah ?_;refine ax (X := Nat) (fun k => k ≤ L.length) (fun k => [(9, .c (.p (.int .i64 ((sm (fun i => if gi col (gp (gl N.ends v) i).1.toNat = x then 1 else 0) k : Nat) : Int)))), (17, .c (.p (.int .i64 k)))]) (fun k => []) (fun k => L.length - k) 0 (Nat.zero_le _) (by first | rfl | (simp only [ac, pZ, simprocAttr, Int.natCast_zero, sm, ← hL] <;> rfl)) ?_;rintro k hk;intro E hE;simp only [ac, pZ, simprocAttr] at hE;subst hE;have hcl := M6 N col v x k;refine ab (dR fun K hK => ?_);(repeat refine eV ?_);refine aa (hK _ (wK [3, 9, 15, 16, 17, 18] ?_));clear hK K;refine ab (dI (fun hb => ?_) (fun hb => ?_))
 ·have hk1 : k < L.length := by simpa using hb
  have hLk := hLi k (by omega)
  have hsk : sm (fun i => if gi col (gp (gl N.ends v) i).1.toNat = x then 1 else 0) (k + 1) = sm (fun i => if gi col (gp (gl N.ends v) i).1.toNat = x then 1 else 0) k + if gi col (gp (gl N.ends v) k).1.toNat = x then 1 else 0 := rfl
  obtain ⟨y, hy⟩ : ∃ y, y = gi col (gp (gl N.ends v) k).1.toNat := ⟨_, rfl⟩;rw [← hy] at hLk hsk;refine af ?_;show DW _ _ _ _ _;refine ab (ah ?_);have dX := And.intro dX (@hLk);refine ab (dR fun K hK => ?_);(repeat refine eV ?_);have dK := @hLk;refine aa (hK _ (a7 [3, 9, 11, 15, 16, 17] ?_));clear hK K;obtain ⟨c, hc⟩ : ∃ c, c = sm (fun i => if gi col (gp (gl N.ends v) i).1.toNat = x then 1 else 0) k := ⟨_, rfl⟩;rw [← hc] at hsk hcl ⊢
  by_cases hxy : y = x
  ·have d1 : (y == x) = true := by simpa using hxy
   have hc2 : ((c : Int) + 1) = ((sm (fun i => if gi col (gp (gl N.ends v) i).1.toNat = x then 1 else 0) (k + 1) : Nat) : Int) := by rw [hsk, if_pos hxy]; omega
   have dX := And.intro dX (@d1);refine dR fun K hK => ?_;(repeat refine eV ?_);have dX := And.intro dX (@d1);refine cL rfl ⟨rfl, _, rfl⟩ (by omega) (by first | exact Mc) (Hm true) ?_;rintro _ rfl;(repeat refine eV ?_);have dK := And.intro @d1 @hc2;refine aa (hK _ (a7 [3, 9, 15, 16, 17] ?_));clear hK K;refine dR fun K hK => ?_;(repeat refine eV ?_);have dK := @bu;refine aa (hK _ ?_);clear hK K;show ∃ x, _ ∧ _ ∧ Weak _ _;refine ⟨k + 1, ?_, ?_, ay [3, 9, 15, 16, 17]⟩
   ·omega
   ·omega
  ·have d1 : (y == x) = false := by simpa using hxy
   have hc2 : sm (fun i => if gi col (gp (gl N.ends v) i).1.toNat = x then 1 else 0) (k + 1) = c := by rw [hsk, if_neg hxy, Nat.add_zero]
   have hfi : (if (false = true) then (1 : Int) else 0) = 0 := rfl;have dX := And.intro dX (@d1);refine dR fun K hK => ?_;(repeat refine eV ?_);have dX := And.intro dX (@d1);refine cL rfl ⟨rfl, _, rfl⟩ (by omega) (by first | exact Mc) (Hm false) ?_;rintro _ rfl;(repeat refine eV ?_);have dX := And.intro dX (And.intro @d1 (And.intro @hfi @Int.add_zero));(repeat refine eV ?_);have dK := And.intro @d1 (And.intro @hfi @Int.add_zero);refine aa (hK _ (a7 [3, 9, 15, 16, 17] ?_));clear hK K;refine dR fun K hK => ?_;(repeat refine eV ?_);have dK := And.intro @bu @hc2;refine aa (hK _ ?_);clear hK K;show ∃ x, _ ∧ _ ∧ Weak _ _;refine ⟨k + 1, ?_, ?_, ay [3, 9, 15, 16, 17]⟩
   ·omega
   ·omega
 ·have hk2 : k = (gl N.ends v).length := by
   have : ¬ k < L.length := by simpa using hb
   omega
  rw [hk2];refine ao ?_;refine ba [9] (by simp only [ac, pZ, simprocAttr]; exact rfl) ?_;refine ab (dR fun K hK => ?_);(repeat refine eV ?_);refine aa (hK _ (wK [8] ?_));clear hK K;exact aj (al Tryz.results120 (.one (.plain _ _ rfl)) (by decide) rfl)
theorem mc (f : NF) (N : Net) (o : Bool) (t : TypeId) (col : List Int) (v : Nat) (x : Int) (hg : bn N = true) (hv : v < N.ends.length) (hl : col.length = N.ends.length) : DCalls Tryz.prog 124 [.agg (bj f N), .c (.sl o t 1 (col.map iC)), .c (.p (.int .i64 v)), .c (.p (.int .i64 x))] (fun r => r = [.c (.p (.int .i64 (dz N col v x : Nat)))]) := by
 obtain ⟨hs, hn, hids, hdg⟩ := b0 hg;have hdv := hdg v;obtain ⟨L, hL⟩ : ∃ L, L = eu N v (gl N.ends v).length := ⟨_, rfl⟩;have hLl : L.length = (gl N.ends v).length := by rw [hL, r8]; simp
 have hLi : ∀ j, j < (gl N.ends v).length → gi L j = (gp (gl N.ends v) j).1 := fun j hj => by rw [hL]; exact Dg rfl hj
 refine am Tryz.func124 rfl (by rw [Tryz.ntmps124]; simp) fun w0 => ?_;rw [Tryz.ntmps124];have dX := F9;simp only [bq, bb, Arg.av, bj, bv, ints, ends];refine ab (dR fun K hK => ?_);(repeat refine eV ?_);refine aa (hK _ (wK [1, 2, 3, 4] ?_));clear hK K;refine ab (dR fun K hK => ?_);(repeat refine eV ?_);refine aa (hK _ (wK [1, 2, 3, 4, 9] ?_));clear hK K;refine ab ?_;have dX := And.intro dX ((Eq.symm hL));refine ab (dR fun K hK => ?_);(repeat refine eV ?_);have dX := And.intro dX ((Eq.symm hL));refine cL rfl ⟨rfl, _, rfl⟩ (by omega) (by first | exact zr) (qg ⟨false, f.t1, f.o2, f.t2, false, f.t3, false, f.t4⟩ N v hv (by omega)) ?_;rintro _ rfl;(repeat refine eV ?_);have dK := (Eq.symm hL);refine aa (hK _ (a7 [1, 3, 9, 14, 15, 16] ?_));clear hK K;refine ah ?_;refine ax (X := Nat) (fun k => k ≤ L.length) (fun k => [(9, .c (.p (.int .i64 ((sm (fun i => if gi col (gp (gl N.ends v) i).1.toNat = x then 1 else 0) k : Nat) : Int)))), (16, .c (.p (.int .i64 k)))]) (fun k => []) (fun k => L.length - k) 0 (Nat.zero_le _) (by first | rfl | (simp only [ac, pZ, simprocAttr, Int.natCast_zero, sm, ← hL] <;> rfl)) ?_;rintro k hk;intro E hE;simp only [ac, pZ, simprocAttr] at hE;subst hE;have hcl := M6 N col v x k;refine ab (dR fun K hK => ?_);(repeat refine eV ?_);refine aa (hK _ (wK [1, 3, 9, 14, 15, 16, 17] ?_));clear hK K;refine ab (dI (fun hb => ?_) (fun hb => ?_))
 ·have hk1 : k < L.length := by simpa using hb
  obtain ⟨q1, q2, q3, q4, q5⟩ := rm hs hv (show k < (gl N.ends v).length by omega);obtain ⟨u, hu⟩ : ∃ u, u = nd N v k := ⟨_, rfl⟩;rw [← hu] at q1 q5;have hLk : gi L k = (u : Int) := by rw [hLi k (by omega), q5]
  have hsk : sm (fun i => if gi col (gp (gl N.ends v) i).1.toNat = x then 1 else 0) (k + 1) = sm (fun i => if gi col (gp (gl N.ends v) i).1.toNat = x then 1 else 0) k + if gi col u = x then 1 else 0 := by rw [sm, q5]; rfl
  refine af ?_;show DW _ _ _ _ _;refine ab (ah ?_);have dX := And.intro dX (@hLk);refine ab (dR fun K hK => ?_);(repeat refine eV ?_);have dK := @hLk;refine aa (hK _ (a7 [1, 3, 9, 11, 14, 15, 16] ?_));clear hK K;obtain ⟨c, hc⟩ : ∃ c, c = sm (fun i => if gi col (gp (gl N.ends v) i).1.toNat = x then 1 else 0) k := ⟨_, rfl⟩;rw [← hc] at hsk hcl ⊢;have dX := And.intro dX (@Int.toNat_natCast);refine ab (dR fun K hK => ?_);(repeat refine eV ?_);refine aa (hK _ (wK [1, 3, 9, 14, 15, 16, 25] ?_));clear hK K;refine dI ?_ ?_<;>intro hb
  ·have hxy : gi col u = x := by simpa using hb
   have hc2 : ((c : Int) + 1) = ((sm (fun i => if gi col (gp (gl N.ends v) i).1.toNat = x then 1 else 0) (k + 1) : Nat) : Int) := by rw [hsk, if_pos hxy]; omega
   refine dR fun K hK => ?_;(repeat refine eV ?_);have dK := @hc2;refine aa (hK _ (a7 [1, 3, 9, 14, 15, 16] ?_));clear hK K;refine dR fun K hK => ?_;(repeat refine eV ?_);have dK := @bu;refine aa (hK _ ?_);clear hK K;show ∃ x, _ ∧ _ ∧ Weak _ _;refine ⟨k + 1, ?_, ?_, ay [1, 3, 9, 14, 15, 16]⟩
   ·omega
   ·omega
  ·have hxy : ¬ gi col u = x := by simpa using hb
   have hc2 : sm (fun i => if gi col (gp (gl N.ends v) i).1.toNat = x then 1 else 0) (k + 1) = c := by rw [hsk, if_neg hxy, Nat.add_zero]
   refine af ?_;show DW _ _ _ _ _;refine dR fun K hK => ?_;(repeat refine eV ?_);have dK := And.intro @bu @hc2;refine aa (hK _ ?_);clear hK K;show ∃ x, _ ∧ _ ∧ Weak _ _;refine ⟨k + 1, ?_, ?_, ay [1, 3, 9, 14, 15, 16]⟩
   ·omega
   ·omega
 ·have hk2 : k = (gl N.ends v).length := by
   have : ¬ k < L.length := by simpa using hb
   omega
  rw [hk2];refine ao ?_;refine ba [9] (by simp only [ac, pZ, simprocAttr]; exact rfl) ?_;refine ab (dR fun K hK => ?_);(repeat refine eV ?_);refine aa (hK _ (wK [8] ?_));clear hK K;exact aj (al Tryz.results124 (.one (.plain _ _ rfl)) (by decide) rfl)
end
section
set_option maxHeartbeats 0
set_option maxRecDepth 8000
open Go Go.RowKit
noncomputable def eh (N : Net) (col : List Int) : Bool := bn N && ((col.length : Int) == (N.ends.length : Int)) && lq col 0 1000000000000
theorem jk {N : Net} {col : List Int} (h : eh N col = true) : bn N = true ∧ col.length = N.ends.length ∧ lq col 0 1000000000000 = true := by
 unfold eh at h;rw [Bool.and_eq_true, Bool.and_eq_true] at h;refine ⟨h.1.1, ?_, h.2⟩;have := h.1.2;simp at this; omega
def sw (N : Net) (col : List Int) (d : Int) : Bool := (List.range col.length).all fun v => decide ((dz N col v (gi col v) : Int) ≤ d)
theorem Gb {N : Net} {col : List Int} {d : Int} {v : Nat} (hv : v < col.length) (h : (dz N col v (gi col v) : Int) > d) : sw N col d = false := by
 cases hd : sw N col d with
 | false => rfl
 | true =>
  have := List.all_eq_true.1 hd v (List.mem_range.2 hv);have h2 := of_decide_eq_true this;omega
theorem vj {N : Net} {col : List Int} {d : Int} (h : ∀ v, v < col.length → (dz N col v (gi col v) : Int) ≤ d) : sw N col d = true := List.all_eq_true.2 fun v hv => decide_eq_true (h v (List.mem_range.1 hv))
def wkC (N : Net) (col : List Int) (v : Nat) : Bool := decide (0 < (gl N.ends v).length) && ((dz N col v (gi col v) : Int) == ((gl N.ends v).length : Int))
def wkB (N : Net) (col : List Int) : Bool := (List.range N.ends.length).all fun v => !wkC N col v
theorem P5 {N : Net} {col : List Int} {v : Nat} (hv : v < N.ends.length) (h : wkC N col v = true) : wkB N col = false := by
 cases hd : wkB N col with
 | false => rfl
 | true => have := List.all_eq_true.1 hd v (List.mem_range.2 hv); rw [h] at this; cases this
theorem Km {N : Net} {col : List Int} (h : ∀ v, v < N.ends.length → wkC N col v = false) : wkB N col = true := List.all_eq_true.2 fun v hv => by rw [h v (List.mem_range.1 hv)]; rfl
def zBDf21 := PLift.up (And.intro aq (And.intro bp (And.intro cr (And.intro b6 (And.intro bl (And.intro @if_pos.{1} (And.intro @cl (And.intro bt (And.intro @di (And.intro @dq (And.intro @bw (And.intro @ca (And.intro @ck @trivial)))))))))))))
theorem sr : type_of% zBDf21.down := zBDf21.down
theorem q8 (f : NF) (N : Net) (o : Bool) (t : TypeId) (col : List Int) (hi : N.ids.length ≤ 1000000) (hcl : col.length ≤ 1000000) (hn0 : N.ends.length ≤ 1000000) : DCalls Tryz.prog 126 [.agg (bj f N), .c (.sl o t 1 (col.map iC))] (fun r => r = [.c (.p (.bool (eh N col)))]) := by
 refine am Tryz.func126 rfl (by rw [Tryz.ntmps126]; simp) fun w0 => ?_;rw [Tryz.ntmps126];have dX := sr;simp only [bq, bb, Arg.av, bj, bv, ints, ends];refine ab (dR fun K hK => ?_);(repeat refine eV ?_);refine aa (hK _ (wK [1, 2] ?_));clear hK K;refine ab (dR fun K hK => ?_);(repeat refine eV ?_);refine cL rfl ⟨rfl, _, rfl⟩ (by omega) (by first | exact jc | exact ki) (d7 ⟨false, f.t1, f.o2, f.t2, false, f.t3, false, f.t4⟩ N (by omega)) ?_;rintro _ rfl;(repeat refine eV ?_);obtain h1 | h1 := Bool.eq_false_or_eq_true (bn N)
 ·obtain h2 | h2 := Bool.eq_false_or_eq_true ((col.length : Int) == (N.ends.length : Int))
  ·have hab : (col.all fun n => inB n 0 1000000000000) = lq col 0 1000000000000 := rfl;have dX := And.intro dX (And.intro @h1 @h2);(repeat refine eV ?_);have dX := And.intro dX (And.intro @h1 @h2);refine cgF rfl rfl ⟨rfl, _, rfl⟩ (by omega) (by first | exact jc | exact ki) (my o t col 0 1000000000000 hcl) ?_;rintro _ rfl;(repeat refine eV ?_);have dX := And.intro dX (And.intro @h1 @h2);(repeat refine eV ?_);have dK := And.intro @h1 @h2;refine aa (hK _ (a7 [4] ?_));clear hK K;exact aj (al Tryz.results126 (.one (.plain _ _ rfl)) (by decide) (by rw [eh, h1, h2, hab]; rfl))
  ·have dX := And.intro dX (And.intro @h1 @h2);(repeat refine eV ?_);have dX := And.intro dX (And.intro @h1 @h2);refine csF ?_;(repeat refine eV ?_);have dX := And.intro dX (And.intro @h1 @h2);(repeat refine eV ?_);have dK := And.intro @h1 @h2;refine aa (hK _ (a7 [4] ?_));clear hK K;exact aj (al Tryz.results126 (.one (.plain _ _ rfl)) (by decide) (by rw [eh, h1, h2]; rfl))
 ·have dX := And.intro dX (@h1);(repeat refine eV ?_);have dX := And.intro dX (@h1);refine csF ?_;(repeat refine eV ?_);have dX := And.intro dX (@h1);(repeat refine eV ?_);have dK := @h1;refine aa (hK _ (a7 [4] ?_));clear hK K;exact aj (al Tryz.results126 (.one (.plain _ _ rfl)) (by decide) (by rw [eh, h1, Bool.false_and, Bool.false_and]))
theorem tp (f : NF) (N : Net) (o : Bool) (t : TypeId) (col : List Int) (hi : N.ids.length ≤ 1000000) (hcl : col.length ≤ 1000000) (hn0 : N.ends.length ≤ 1000000) : DCalls Tryz.prog 128 [.agg (bj f N), .c (.sl o t 1 (col.map iC))] (fun r => r = [.c (.p (.bool (eh N col)))]) := by
 refine am Tryz.func128 rfl (by rw [Tryz.ntmps128]; simp) fun w0 => ?_;rw [Tryz.ntmps128];have dX := sr;simp only [bq, bb, Arg.av, bj, bv, ints, ends];refine ab (dR fun K hK => ?_);(repeat refine eV ?_);refine aa (hK _ (wK [1, 2] ?_));clear hK K;refine ab (dR fun K hK => ?_);(repeat refine eV ?_);refine cL rfl ⟨rfl, _, rfl⟩ (by omega) (by first | exact od | exact L3) (qk ⟨false, f.t1, f.o2, f.t2, false, f.t3, false, f.t4⟩ N) ?_;rintro _ rfl;(repeat refine eV ?_);obtain h1 | h1 := Bool.eq_false_or_eq_true (bn N)
 ·obtain h2 | h2 := Bool.eq_false_or_eq_true ((col.length : Int) == (N.ends.length : Int))
  ·have dX := And.intro dX (And.intro @h1 @h2);(repeat refine eV ?_);have dX := And.intro dX (And.intro @h1 @h2);refine cgF rfl rfl ⟨rfl, _, rfl⟩ (by omega) (by first | exact od | exact L3) (Oy o t col 0 1000000000000) ?_;rintro _ rfl;(repeat refine eV ?_);have dX := And.intro dX (And.intro @h1 @h2);(repeat refine eV ?_);have dK := And.intro @h1 @h2;refine aa (hK _ (a7 [4] ?_));clear hK K;exact aj (al Tryz.results128 (.one (.plain _ _ rfl)) (by decide) (by rw [eh, h1, h2]; rfl))
  ·have dX := And.intro dX (And.intro @h1 @h2);(repeat refine eV ?_);have dX := And.intro dX (And.intro @h1 @h2);refine csF ?_;(repeat refine eV ?_);have dX := And.intro dX (And.intro @h1 @h2);(repeat refine eV ?_);have dK := And.intro @h1 @h2;refine aa (hK _ (a7 [4] ?_));clear hK K;exact aj (al Tryz.results128 (.one (.plain _ _ rfl)) (by decide) (by rw [eh, h1, h2]; rfl))
 ·have dX := And.intro dX (@h1);(repeat refine eV ?_);have dX := And.intro dX (@h1);refine csF ?_;(repeat refine eV ?_);have dX := And.intro dX (@h1);(repeat refine eV ?_);have dK := @h1;refine aa (hK _ (a7 [4] ?_));clear hK K;exact aj (al Tryz.results128 (.one (.plain _ _ rfl)) (by decide) (by rw [eh, h1, Bool.false_and, Bool.false_and]))
theorem nc (f : NF) (N : Net) (o : Bool) (t : TypeId) (col : List Int) (d : Int) (hi : N.ids.length ≤ 1000000) (hcl : col.length ≤ 1000000) (hn0 : N.ends.length ≤ 1000000) : DCalls Tryz.prog 38 [.agg (bj f N), .c (.sl o t 1 (col.map iC)), .c (.p (.int .i64 d))] (fun r => r = [.c (.p (.bool (eh N col && decide (0 ≤ d) && sw N col d))), .c (.p (.bool (eh N col && decide (0 ≤ d))))]) := by
 refine am Tryz.func38 rfl (by rw [Tryz.ntmps38]; simp) fun w0 => ?_;rw [Tryz.ntmps38];have dX := sr;simp only [bq, bb, Arg.av, bj, bv, ints, ends];refine ab (dR fun K hK => ?_);(repeat refine eV ?_);refine aa (hK _ (wK [1, 2, 3] ?_));clear hK K;refine ab ?_;refine ab (dR fun K hK => ?_);(repeat refine eV ?_);refine cL rfl ⟨rfl, _, rfl⟩ (by omega) (by first | exact L9) (q8 ⟨false, f.t1, f.o2, f.t2, false, f.t3, false, f.t4⟩ N o t col hi hcl hn0) ?_;rintro _ rfl;(repeat refine eV ?_);obtain h1 | h1 := Bool.eq_false_or_eq_true (eh N col)
 ·obtain ⟨hg, hcn, hcb⟩ := jk h1;obtain ⟨hs, hn, hids, hdg⟩ := b0 hg
  by_cases h2 : d < 0
  ·have d2 : decide (d < 0) = true := decide_eq_true h2;have d3 : decide (0 ≤ d) = false := decide_eq_false (by omega);have dX := And.intro dX (And.intro @h1 @d2);(repeat refine eV ?_);have dK := And.intro @h1 @d2;refine aa (hK _ (a7 [1, 2, 3, 17] ?_));clear hK K;refine dI ?_ ?_<;>intro hb
   ·refine ab (dR fun K hK => ?_);(repeat refine eV ?_);refine aa (hK _ (wK [6, 7] ?_));clear hK K;exact aj (al Tryz.results38 (.two (.plain _ _ rfl) (.plain _ _ rfl)) (by decide) (by rw [d3, Bool.and_false, Bool.false_and]))
   ·cases hb
  ·have d2 : decide (d < 0) = false := decide_eq_false h2;have d3 : decide (0 ≤ d) = true := decide_eq_true (by omega);have dX := And.intro dX (And.intro @h1 @d2);(repeat refine eV ?_);have dK := And.intro @h1 @d2;refine aa (hK _ (a7 [1, 2, 3, 17] ?_));clear hK K;refine dI ?_ ?_<;>intro hb
   ·cases hb
   ·refine af ?_;show DW _ _ _ _ _;refine ab ?_;refine ab (dR fun K hK => ?_);(repeat refine eV ?_);refine aa (hK _ (wK [1, 2, 3, 18, 19, 20] ?_));clear hK K;refine ah ?_;refine ax (X := Nat) (fun k => k ≤ col.length ∧ ∀ v, v < k → (dz N col v (gi col v) : Int) ≤ d) (fun k => [(20, .c (.p (.int .i64 k)))]) (fun k => []) (fun k => col.length - k) 0 ⟨Nat.zero_le _, fun v hv => absurd hv (Nat.not_lt_zero v)⟩ (by first | rfl | (simp only [ac, pZ, simprocAttr, Int.natCast_zero] <;> rfl)) ?_;rintro k ⟨hk, hr⟩;intro E hE;simp only [ac, pZ, simprocAttr] at hE;subst hE;refine ab (dR fun K hK => ?_);(repeat refine eV ?_);refine aa (hK _ (wK [1, 2, 3, 18, 19, 20, 21] ?_));clear hK K;refine ab (dI (fun hb => ?_) (fun hb => ?_))
    ·have hk1 : k < col.length := by simpa using hb
     have hkl : k < N.ends.length := by omega
     refine af ?_;show DW _ _ _ _ _;refine ab (ah ?_);refine ab (dR fun K hK => ?_);(repeat refine eV ?_);refine aa (hK _ (wK [1, 2, 3, 8, 9, 18, 19, 20] ?_));clear hK K;refine ab (dR fun K hK => ?_);(repeat refine eV ?_);refine cL rfl ⟨rfl, _, rfl⟩ (by omega) (by first | exact xd) (ij ⟨false, f.t1, f.o2, f.t2, false, f.t3, false, f.t4⟩ N k o t col (gi col k) hg hkl hcn) ?_;rintro _ rfl;(repeat refine eV ?_);refine aa (hK _ (wK [1, 2, 3, 18, 19, 20, 31] ?_));clear hK K;refine dI ?_ ?_<;>intro hb
     ·have hno : sw N col d = false := Gb hk1 (by simpa using hb);refine ab (dR fun K hK => ?_);(repeat refine eV ?_);refine aa (hK _ (wK [6, 7] ?_));clear hK K;exact aj (al Tryz.results38 (.two (.plain _ _ rfl) (.plain _ _ rfl)) (by decide) (by rw [h1, d3, hno]; rfl))
     ·refine af ?_;show DW _ _ _ _ _;refine dR fun K hK => ?_;(repeat refine eV ?_);have dK := @bu;refine aa (hK _ ?_);clear hK K;show ∃ x, _ ∧ _ ∧ Weak _ _;refine ⟨k + 1, ?_, ?_, ay [1, 2, 3, 18, 19, 20]⟩
      ·refine ⟨hk1, fun v hv => ?_⟩
       by_cases h : v = k
       ·have h5 : ¬ (dz N col k (gi col k) : Int) > d := by simpa using hb
        rw [h]; omega
       ·exact hr v (by omega)
      ·omega
    ·have hk2 : k = col.length := by
      have : ¬ k < col.length := by simpa using hb
      omega
     have hyes : sw N col d = true := vj (hk2 ▸ hr);refine ao ?_;refine ba [] (by simp only [ac, pZ, simprocAttr]; exact rfl) ?_;refine ab (dR fun K hK => ?_);(repeat refine eV ?_);refine aa (hK _ (wK [6, 7] ?_));clear hK K;exact aj (al Tryz.results38 (.two (.plain _ _ rfl) (.plain _ _ rfl)) (by decide) (by rw [h1, d3, hyes]; rfl))
 ·have dX := And.intro dX (@h1);(repeat refine eV ?_);have dK := @h1;refine aa (hK _ (a7 [1, 2, 3, 17] ?_));clear hK K;refine dI ?_ ?_<;>intro hb
  ·refine ab (dR fun K hK => ?_);(repeat refine eV ?_);refine aa (hK _ (wK [6, 7] ?_));clear hK K;exact aj (al Tryz.results38 (.two (.plain _ _ rfl) (.plain _ _ rfl)) (by decide) (by rw [h1, Bool.false_and, Bool.false_and]))
  ·cases hb
theorem yx (f : NF) (N : Net) (o : Bool) (t : TypeId) (col : List Int) (d : Int) (hi : N.ids.length ≤ 1000000) (hcl : col.length ≤ 1000000) (hn0 : N.ends.length ≤ 1000000) : DCalls Tryz.prog 41 [.agg (bj f N), .c (.sl o t 1 (col.map iC)), .c (.p (.int .i64 d))] (fun r => r = [.c (.p (.bool (eh N col && decide (0 ≤ d) && sw N col d))), .c (.p (.bool (eh N col && decide (0 ≤ d))))]) := by
 refine am Tryz.func41 rfl (by rw [Tryz.ntmps41]; simp) fun w0 => ?_;rw [Tryz.ntmps41];have dX := sr;simp only [bq, bb, Arg.av, bj, bv, ints, ends];refine ab (dR fun K hK => ?_);(repeat refine eV ?_);refine aa (hK _ (wK [1, 2, 3] ?_));clear hK K;refine ab ?_;refine ab (dR fun K hK => ?_);(repeat refine eV ?_);refine cL rfl ⟨rfl, _, rfl⟩ (by omega) (by first | exact L7) (tp ⟨false, f.t1, f.o2, f.t2, false, f.t3, false, f.t4⟩ N o t col hi hcl hn0) ?_;rintro _ rfl;(repeat refine eV ?_);obtain h1 | h1 := Bool.eq_false_or_eq_true (eh N col)
 ·obtain ⟨hg, hcn, hcb⟩ := jk h1;obtain ⟨hs, hn, hids, hdg⟩ := b0 hg
  by_cases h2 : d < 0
  ·have d2 : decide (d < 0) = true := decide_eq_true h2;have d3 : decide (0 ≤ d) = false := decide_eq_false (by omega);have dX := And.intro dX (And.intro @h1 @d2);(repeat refine eV ?_);have dK := And.intro @h1 @d2;refine aa (hK _ (a7 [1, 2, 3, 17] ?_));clear hK K;refine dI ?_ ?_<;>intro hb
   ·refine ab (dR fun K hK => ?_);(repeat refine eV ?_);refine aa (hK _ (wK [6, 7] ?_));clear hK K;exact aj (al Tryz.results41 (.two (.plain _ _ rfl) (.plain _ _ rfl)) (by decide) (by rw [d3, Bool.and_false, Bool.false_and]))
   ·cases hb
  ·have d2 : decide (d < 0) = false := decide_eq_false h2;have d3 : decide (0 ≤ d) = true := decide_eq_true (by omega);have dX := And.intro dX (And.intro @h1 @d2);(repeat refine eV ?_);have dK := And.intro @h1 @d2;refine aa (hK _ (a7 [1, 2, 3, 17] ?_));clear hK K;refine dI ?_ ?_<;>intro hb
   ·cases hb
   ·refine af ?_;show DW _ _ _ _ _;refine ab ?_;refine ab (dR fun K hK => ?_);(repeat refine eV ?_);refine aa (hK _ (wK [1, 2, 3, 18, 19, 20] ?_));clear hK K;refine ah ?_;refine ax (X := Nat) (fun k => k ≤ col.length ∧ ∀ v, v < k → (dz N col v (gi col v) : Int) ≤ d) (fun k => [(20, .c (.p (.int .i64 k)))]) (fun k => []) (fun k => col.length - k) 0 ⟨Nat.zero_le _, fun v hv => absurd hv (Nat.not_lt_zero v)⟩ (by first | rfl | (simp only [ac, pZ, simprocAttr, Int.natCast_zero] <;> rfl)) ?_;rintro k ⟨hk, hr⟩;intro E hE;simp only [ac, pZ, simprocAttr] at hE;subst hE;refine ab (dR fun K hK => ?_);(repeat refine eV ?_);refine aa (hK _ (wK [1, 2, 3, 18, 19, 20, 21] ?_));clear hK K;refine ab (dI (fun hb => ?_) (fun hb => ?_))
    ·have hk1 : k < col.length := by simpa using hb
     have hkl : k < N.ends.length := by omega
     refine af ?_;show DW _ _ _ _ _;refine ab (ah ?_);refine ab (dR fun K hK => ?_);(repeat refine eV ?_);refine aa (hK _ (wK [1, 2, 3, 8, 9, 18, 19, 20] ?_));clear hK K;refine ab (dR fun K hK => ?_);(repeat refine eV ?_);refine cL rfl ⟨rfl, _, rfl⟩ (by omega) (by first | exact xc) (mc ⟨false, f.t1, f.o2, f.t2, false, f.t3, false, f.t4⟩ N o t col k (gi col k) hg hkl hcn) ?_;rintro _ rfl;(repeat refine eV ?_);refine aa (hK _ (wK [1, 2, 3, 18, 19, 20, 31] ?_));clear hK K;refine dI ?_ ?_<;>intro hb
     ·have hno : sw N col d = false := Gb hk1 (by simpa using hb);refine ab (dR fun K hK => ?_);(repeat refine eV ?_);refine aa (hK _ (wK [6, 7] ?_));clear hK K;exact aj (al Tryz.results41 (.two (.plain _ _ rfl) (.plain _ _ rfl)) (by decide) (by rw [h1, d3, hno]; rfl))
     ·refine af ?_;show DW _ _ _ _ _;refine dR fun K hK => ?_;(repeat refine eV ?_);have dK := @bu;refine aa (hK _ ?_);clear hK K;show ∃ x, _ ∧ _ ∧ Weak _ _;refine ⟨k + 1, ?_, ?_, ay [1, 2, 3, 18, 19, 20]⟩
      ·refine ⟨hk1, fun v hv => ?_⟩
       by_cases h : v = k
       ·have h5 : ¬ (dz N col k (gi col k) : Int) > d := by simpa using hb
        rw [h]; omega
       ·exact hr v (by omega)
      ·omega
    ·have hk2 : k = col.length := by
      have : ¬ k < col.length := by simpa using hb
      omega
     have hyes : sw N col d = true := vj (hk2 ▸ hr);refine ao ?_;refine ba [] (by simp only [ac, pZ, simprocAttr]; exact rfl) ?_;refine ab (dR fun K hK => ?_);(repeat refine eV ?_);refine aa (hK _ (wK [6, 7] ?_));clear hK K;exact aj (al Tryz.results41 (.two (.plain _ _ rfl) (.plain _ _ rfl)) (by decide) (by rw [h1, d3, hyes]; rfl))
 ·have dX := And.intro dX (@h1);(repeat refine eV ?_);have dK := @h1;refine aa (hK _ (a7 [1, 2, 3, 17] ?_));clear hK K;refine dI ?_ ?_<;>intro hb
  ·refine ab (dR fun K hK => ?_);(repeat refine eV ?_);refine aa (hK _ (wK [6, 7] ?_));clear hK K;exact aj (al Tryz.results41 (.two (.plain _ _ rfl) (.plain _ _ rfl)) (by decide) (by rw [h1, Bool.false_and, Bool.false_and]))
  ·cases hb
def wkSt6 : Nat → Stat
 | 0 => ⟨[2], [(2, 1)], [], [19], [], []⟩
 | 1 => ⟨[19], [(2, 1)], [], [20], [], []⟩
 | 2 => ⟨[6], [], [], [21], [], []⟩
 | 3 => ⟨[20, 21], [], [], [22], [], []⟩
 | 4 => ⟨[22], [], [], [23], [], []⟩
 | 5 => ⟨[23], [], [], [24], [], []⟩
 | 6 => ⟨[24], [], [], [25], [], []⟩
 | 7 => ⟨[25], [], [], [26], [], []⟩
 | 8 => ⟨[2, 26], [(2, 1)], [2], [27], [], []⟩
 | 9 => ⟨[1, 26], [], [], [28], [], []⟩
 | 10 => ⟨[6, 26], [], [], [29], [], []⟩
 | 11 => ⟨[7, 26], [], [], [30], [], []⟩
 | 12 => ⟨[27, 28, 29, 30, 26], [], [], [31], [], []⟩
 | 13 => ⟨[2, 26], [(2, 1)], [], [32], [], []⟩
 | 14 => ⟨[32, 26], [(2, 1)], [], [33], [], []⟩
 | 15 => ⟨[6, 26], [], [], [34], [], []⟩
 | 16 => ⟨[33, 34, 26], [], [], [35], [], []⟩
 | 17 => ⟨[35, 26], [], [], [36], [], []⟩
 | 18 => ⟨[36, 26], [], [], [37], [], []⟩
 | 19 => ⟨[31, 37, 26], [], [], [38], [], []⟩
 | 20 => ⟨[26, 38], [], [], [39], [], []⟩
 | _ => ⟨[], [], [], [], [], []⟩
theorem Nr (f : NF) (N : Net) (o : Bool) (t : TypeId) (col : List Int) (hi : N.ids.length ≤ 1000000) (hcl : col.length ≤ 1000000) (hn0 : N.ends.length ≤ 1000000) : DCalls Tryz.prog 45 [.agg (bj f N), .c (.sl o t 1 (col.map iC))] (fun r => r = [.c (.p (.bool (eh N col && wkB N col))), .c (.p (.bool (eh N col)))]) := by
 refine am Tryz.func45 rfl (by rw [Tryz.ntmps45]; simp) fun w0 => ?_;rw [Tryz.ntmps45];have dX := sr;simp only [bq, bb, Arg.av, bj, bv, ints, ends];refine ab (dR fun K hK => ?_);(repeat refine eV ?_);refine aa (hK _ (wK [1, 2] ?_));clear hK K;refine ab ?_;refine ab (dR fun K hK => ?_);(repeat refine eV ?_);refine cL rfl ⟨rfl, _, rfl⟩ (by omega) (by first | exact L7) (tp ⟨false, f.t1, f.o2, f.t2, false, f.t3, false, f.t4⟩ N o t col hi hcl hn0) ?_;rintro _ rfl;(repeat refine eV ?_);obtain h1 | h1 := Bool.eq_false_or_eq_true (eh N col)
 ·obtain ⟨hg, hcn, hcb⟩ := jk h1;obtain ⟨hs, hn, hids, hdg⟩ := b0 hg;have dX := And.intro dX (@h1);(repeat refine eV ?_);have dK := @h1;refine aa (hK _ (a7 [1, 2, 11] ?_));clear hK K;refine dI ?_ ?_<;>intro hb
  ·cases hb
  ·refine af ?_;show DW _ _ _ _ _;refine ab ?_;refine ab (dR fun K hK => ?_);(repeat refine eV ?_);refine aa (hK _ (wK [1, 2, 12, 13, 14] ?_));clear hK K;refine ah ?_;refine ax (X := Nat) (fun k => k ≤ N.ends.length ∧ ∀ v, v < k → wkC N col v = false) (fun k => [(14, .c (.p (.int .i64 k)))]) (fun k => []) (fun k => N.ends.length - k) 0 ⟨Nat.zero_le _, fun v hv => absurd hv (Nat.not_lt_zero v)⟩ (by first | rfl | (simp only [ac, pZ, simprocAttr, Int.natCast_zero] <;> rfl)) ?_;rintro k ⟨hk, hr⟩;intro E hE;simp only [ac, pZ, simprocAttr] at hE;subst hE;refine ab (dR fun K hK => ?_);(repeat refine eV ?_);refine aa (hK _ (wK [1, 2, 12, 13, 14, 15] ?_));clear hK K;refine ab (dI (fun hb => ?_) (fun hb => ?_))
   ·have hk1 : k < N.ends.length := by have := of_decide_eq_true hb; omega
    have hdk := hdg k;refine af ?_;show DW _ _ _ _ _;refine ab (ah ?_);refine ab (dR fun K hK => ?_);(repeat refine eV ?_);refine aa (hK _ (wK [1, 2, 6, 7, 12, 13, 14] ?_));clear hK K
    by_cases hp : 0 < (gl N.ends k).length
    ·have d1 : decide (((gl N.ends k).length : Int) > 0) = true := decide_eq_true (by omega);have hwk : wkC N col k = ((dz N col k (gi col k) : Int) == ((gl N.ends k).length : Int)) := by unfold wkC; rw [decide_eq_true hp, Bool.true_and]
     have dX := And.intro dX (And.intro @wkSt6.eq_def (And.intro @d1 @Int.toNat_natCast));refine ab (em wkSt6 (fun j r => match j with | 12 => r = [.c (.p (.int .i64 (dz N col k (gi col k) : Nat)))] | _ => True) fun K hK => ?_);(repeat refine dV ?_);have dX := And.intro dX (And.intro @wkSt6.eq_def (And.intro @d1 @Int.toNat_natCast));refine dgF rfl rfl ⟨rfl, _, rfl⟩ (by omega) (by first | exact xc) (mc ⟨false, f.t1, f.o2, f.t2, false, f.t3, false, f.t4⟩ N o t col k (gi col k) hg hk1 hcn) ?_;rintro _ rfl;(repeat refine dV ?_);have dX := And.intro dX (And.intro @wkSt6.eq_def (And.intro @d1 @Int.toNat_natCast));(repeat refine dV ?_);have dK := @d1;refine a6 (hK _ (a7 [1, 2, 12, 13, 14, 39] ?_));clear hK K;refine dI ?_ ?_<;>intro hb
     ·have hno : wkB N col = false := P5 hk1 (by rw [hwk]; exact hb);refine ab (dR fun K hK => ?_);(repeat refine eV ?_);refine aa (hK _ (wK [4, 5] ?_));clear hK K;exact aj (al Tryz.results45 (.two (.plain _ _ rfl) (.plain _ _ rfl)) (by decide) (by rw [h1, hno]; rfl))
     ·refine af ?_;show DW _ _ _ _ _;refine dR fun K hK => ?_;(repeat refine eV ?_);have dK := @bu;refine aa (hK _ ?_);clear hK K;show ∃ x, _ ∧ _ ∧ Weak _ _;refine ⟨k + 1, ?_, ?_, ay [1, 2, 12, 13, 14]⟩
      ·refine ⟨hk1, fun v hv => ?_⟩
       by_cases h : v = k
       ·rw [h, hwk]; exact hb
       ·exact hr v (by omega)
      ·omega
    ·have d1 : decide (((gl N.ends k).length : Int) > 0) = false := decide_eq_false (by omega);have hwk : wkC N col k = false := by unfold wkC; rw [decide_eq_false hp, Bool.false_and]
     have dX := And.intro dX (And.intro @wkSt6.eq_def (And.intro @d1 @Int.toNat_natCast));refine ab (em wkSt6 (fun j r => match j with | 12 => r = [.c (.p (.int .i64 (dz N col k (gi col k) : Nat)))] | _ => True) fun K hK => ?_);(repeat refine dV ?_);have dX := And.intro dX (And.intro @wkSt6.eq_def @d1);refine dsF ?_;(repeat refine dV ?_);have dX := And.intro dX (And.intro @wkSt6.eq_def @d1);(repeat refine dV ?_);have dK := @d1;refine a6 (hK _ (a7 [1, 2, 12, 13, 14, 39] ?_));clear hK K;refine dI ?_ ?_<;>intro hb
     ·cases hb
     ·refine af ?_;show DW _ _ _ _ _;refine dR fun K hK => ?_;(repeat refine eV ?_);have dK := @bu;refine aa (hK _ ?_);clear hK K;show ∃ x, _ ∧ _ ∧ Weak _ _;refine ⟨k + 1, ?_, ?_, ay [1, 2, 12, 13, 14]⟩
      ·refine ⟨hk1, fun v hv => ?_⟩
       by_cases h : v = k
       ·rw [h, hwk]
       ·exact hr v (by omega)
      ·omega
   ·have hk2 : k = N.ends.length := by
     have := of_decide_eq_false hb;omega
    have hyes : wkB N col = true := Km (hk2 ▸ hr);refine ao ?_;refine ba [] (by simp only [ac, pZ, simprocAttr]; exact rfl) ?_;refine ab (dR fun K hK => ?_);(repeat refine eV ?_);refine aa (hK _ (wK [4, 5] ?_));clear hK K;exact aj (al Tryz.results45 (.two (.plain _ _ rfl) (.plain _ _ rfl)) (by decide) (by rw [h1, hyes]; rfl))
 ·have dX := And.intro dX (@h1);(repeat refine eV ?_);have dK := @h1;refine aa (hK _ (a7 [1, 2, 11] ?_));clear hK K;refine dI ?_ ?_<;>intro hb
  ·refine ab (dR fun K hK => ?_);(repeat refine eV ?_);refine aa (hK _ (wK [4, 5] ?_));clear hK K;exact aj (al Tryz.results45 (.two (.plain _ _ rfl) (.plain _ _ rfl)) (by decide) (by rw [h1, Bool.false_and]))
  ·cases hb
def wkISt6 : Nat → Stat
 | 0 => ⟨[7], [], [], [20], [], []⟩
 | 1 => ⟨[20], [], [], [21], [], []⟩
 | 2 => ⟨[21], [], [], [22], [], []⟩
 | 3 => ⟨[22], [], [], [23], [], []⟩
 | 4 => ⟨[2, 23], [(2, 1)], [2], [24], [], []⟩
 | 5 => ⟨[6, 23], [], [], [25], [], []⟩
 | 6 => ⟨[1, 23], [], [], [26], [], []⟩
 | 7 => ⟨[1, 23], [], [], [27], [], []⟩
 | 8 => ⟨[6, 23], [], [], [28], [], []⟩
 | 9 => ⟨[27, 28, 23], [], [], [29], [], []⟩
 | 10 => ⟨[29, 23], [], [], [30], [], []⟩
 | 11 => ⟨[24, 25, 26, 30, 23], [], [], [31], [], []⟩
 | 12 => ⟨[7, 23], [], [], [32], [], []⟩
 | 13 => ⟨[32, 23], [], [], [33], [], []⟩
 | 14 => ⟨[31, 33, 23], [], [], [34], [], []⟩
 | 15 => ⟨[23, 34], [], [], [35], [], []⟩
 | _ => ⟨[], [], [], [], [], []⟩
theorem J3 (f : NF) (N : Net) (o : Bool) (t : TypeId) (col : List Int) (hi : N.ids.length ≤ 1000000) (hcl : col.length ≤ 1000000) (hn0 : N.ends.length ≤ 1000000) : DCalls Tryz.prog 44 [.agg (bj f N), .c (.sl o t 1 (col.map iC))] (fun r => r = [.c (.p (.bool (eh N col && wkB N col))), .c (.p (.bool (eh N col)))]) := by
 refine am Tryz.func44 rfl (by rw [Tryz.ntmps44]; simp) fun w0 => ?_;rw [Tryz.ntmps44];have dX := sr;simp only [bq, bb, Arg.av, bj, bv, ints, ends];refine ab (dR fun K hK => ?_);(repeat refine eV ?_);refine aa (hK _ (wK [1, 2] ?_));clear hK K;refine ab ?_;refine ab (dR fun K hK => ?_);(repeat refine eV ?_);refine cL rfl ⟨rfl, _, rfl⟩ (by omega) (by first | exact L9) (q8 ⟨false, f.t1, f.o2, f.t2, false, f.t3, false, f.t4⟩ N o t col hi hcl hn0) ?_;rintro _ rfl;(repeat refine eV ?_);obtain h1 | h1 := Bool.eq_false_or_eq_true (eh N col)
 ·obtain ⟨hg, hcn, hcb⟩ := jk h1;obtain ⟨hs, hn, hids, hdg⟩ := b0 hg;have dX := And.intro dX (@h1);(repeat refine eV ?_);have dK := @h1;refine aa (hK _ (a7 [1, 2, 11] ?_));clear hK K;refine dI ?_ ?_<;>intro hb
  ·cases hb
  ·refine af ?_;show DW _ _ _ _ _;refine ab ?_;refine ab (dR fun K hK => ?_);(repeat refine eV ?_);refine aa (hK _ (wK [1, 2, 13, 14, 15] ?_));clear hK K;refine ah ?_;refine ax (X := Nat) (fun k => k ≤ N.ends.length ∧ ∀ v, v < k → wkC N col v = false) (fun k => [(15, .c (.p (.int .i64 k)))]) (fun k => []) (fun k => N.ends.length - k) 0 ⟨Nat.zero_le _, fun v hv => absurd hv (Nat.not_lt_zero v)⟩ (by first | rfl | (simp only [ac, pZ, simprocAttr, Int.natCast_zero] <;> rfl)) ?_;rintro k ⟨hk, hr⟩;intro E hE;simp only [ac, pZ, simprocAttr] at hE;subst hE;refine ab (dR fun K hK => ?_);(repeat refine eV ?_);refine aa (hK _ (wK [1, 2, 13, 14, 15, 16] ?_));clear hK K;refine ab (dI (fun hb => ?_) (fun hb => ?_))
   ·have hk1 : k < N.ends.length := by have := of_decide_eq_true hb; omega
    have hdk := hdg k;refine af ?_;show DW _ _ _ _ _;refine ab (ah ?_);refine ab (dR fun K hK => ?_);(repeat refine eV ?_);refine aa (hK _ (wK [1, 2, 6, 7, 13, 14, 15] ?_));clear hK K
    by_cases hp : 0 < (gl N.ends k).length
    ·have d1 : decide (((gl N.ends k).length : Int) > 0) = true := decide_eq_true (by omega);have hwk : wkC N col k = ((dz N col k (gi col k) : Int) == ((gl N.ends k).length : Int)) := by unfold wkC; rw [decide_eq_true hp, Bool.true_and]
     have dX := And.intro dX (And.intro @wkISt6.eq_def (And.intro @d1 @Int.toNat_natCast));refine ab (em wkISt6 (fun j r => match j with | 11 => r = [.c (.p (.int .i64 (dz N col k (gi col k) : Nat)))] | _ => True) fun K hK => ?_);(repeat refine dV ?_);have dX := And.intro dX (And.intro @wkISt6.eq_def (And.intro @d1 @Int.toNat_natCast));refine dgF rfl rfl ⟨rfl, _, rfl⟩ (by omega) (by first | exact xd) (ij ⟨false, f.t1, f.o2, f.t2, false, f.t3, false, f.t4⟩ N k o t col (gi col k) hg hk1 hcn) ?_;rintro _ rfl;(repeat refine dV ?_);have dX := And.intro dX (And.intro @wkISt6.eq_def (And.intro @d1 @Int.toNat_natCast));(repeat refine dV ?_);have dK := @d1;refine a6 (hK _ (a7 [1, 2, 13, 14, 15, 35] ?_));clear hK K;refine dI ?_ ?_<;>intro hb
     ·have hno : wkB N col = false := P5 hk1 (by rw [hwk]; exact hb);refine ab (dR fun K hK => ?_);(repeat refine eV ?_);refine aa (hK _ (wK [4, 5] ?_));clear hK K;exact aj (al Tryz.results44 (.two (.plain _ _ rfl) (.plain _ _ rfl)) (by decide) (by rw [h1, hno]; rfl))
     ·refine af ?_;show DW _ _ _ _ _;refine dR fun K hK => ?_;(repeat refine eV ?_);have dK := @bu;refine aa (hK _ ?_);clear hK K;show ∃ x, _ ∧ _ ∧ Weak _ _;refine ⟨k + 1, ?_, ?_, ay [1, 2, 13, 14, 15]⟩
      ·refine ⟨hk1, fun v hv => ?_⟩
       by_cases h : v = k
       ·rw [h, hwk]; exact hb
       ·exact hr v (by omega)
      ·omega
    ·have d1 : decide (((gl N.ends k).length : Int) > 0) = false := decide_eq_false (by omega);have hwk : wkC N col k = false := by unfold wkC; rw [decide_eq_false hp, Bool.false_and]
     have dX := And.intro dX (And.intro @wkISt6.eq_def (And.intro @d1 @Int.toNat_natCast));refine ab (em wkISt6 (fun j r => match j with | 11 => r = [.c (.p (.int .i64 (dz N col k (gi col k) : Nat)))] | _ => True) fun K hK => ?_);(repeat refine dV ?_);have dX := And.intro dX (And.intro @wkISt6.eq_def @d1);refine dsF ?_;(repeat refine dV ?_);have dX := And.intro dX (And.intro @wkISt6.eq_def @d1);(repeat refine dV ?_);have dK := @d1;refine a6 (hK _ (a7 [1, 2, 13, 14, 15, 35] ?_));clear hK K;refine dI ?_ ?_<;>intro hb
     ·cases hb
     ·refine af ?_;show DW _ _ _ _ _;refine dR fun K hK => ?_;(repeat refine eV ?_);have dK := @bu;refine aa (hK _ ?_);clear hK K;show ∃ x, _ ∧ _ ∧ Weak _ _;refine ⟨k + 1, ?_, ?_, ay [1, 2, 13, 14, 15]⟩
      ·refine ⟨hk1, fun v hv => ?_⟩
       by_cases h : v = k
       ·rw [h, hwk]
       ·exact hr v (by omega)
      ·omega
   ·have hk2 : k = N.ends.length := by
     have := of_decide_eq_false hb;omega
    have hyes : wkB N col = true := Km (hk2 ▸ hr);refine ao ?_;refine ba [] (by simp only [ac, pZ, simprocAttr]; exact rfl) ?_;refine ab (dR fun K hK => ?_);(repeat refine eV ?_);refine aa (hK _ (wK [4, 5] ?_));clear hK K;exact aj (al Tryz.results44 (.two (.plain _ _ rfl) (.plain _ _ rfl)) (by decide) (by rw [h1, hyes]; rfl))
 ·have dX := And.intro dX (@h1);(repeat refine eV ?_);have dK := @h1;refine aa (hK _ (a7 [1, 2, 11] ?_));clear hK K;refine dI ?_ ?_<;>intro hb
  ·refine ab (dR fun K hK => ?_);(repeat refine eV ?_);refine aa (hK _ (wK [4, 5] ?_));clear hK K;exact aj (al Tryz.results44 (.two (.plain _ _ rfl) (.plain _ _ rfl)) (by decide) (by rw [h1, Bool.false_and]))
  ·cases hb
end
end Go.Proofs.YtolpiolnhgpjjaaGreat
