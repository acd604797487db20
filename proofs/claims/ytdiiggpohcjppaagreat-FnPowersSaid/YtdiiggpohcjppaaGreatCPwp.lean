/- Greedy colourings and greedy sets by an order; powers of networks. Plain facts. -/
import Derived.Test.YtdiiggpohcjppaaGreatCMtr2
import Derived.Test.YtdiiggpohcjppaaGreatCJn6
import Derived.Test.YtdiiggpohcjppaaGreatCJn44
set_option linter.unusedSimpArgs false
set_option linter.unusedVariables false
namespace Go.Proofs.YtdiiggpohcjppaaGreat
theorem pig : ∀ (c : Nat) (l : List Int), (∀ j : Nat, j < c → (j : Int) ∈ l) → c ≤ l.length
 | 0, _, _ => Nat.zero_le _
 | c + 1, l, h => by
  have h1 : c ≤ (l.erase (c : Int)).length := pig c _ fun j hj => (List.mem_erase_of_ne (by omega)).2 (h j (by omega))
  rw [List.length_erase_of_mem (h c (by omega))] at h1
  have : 0 < l.length := List.length_pos_of_mem (h c (by omega))
  omega
def lfN (l : List Int) : Nat → Nat → Nat
 | 0, c => c
 | f + 1, c => if (c : Int) ∈ l then lfN l f (c + 1) else c
theorem Hn (l : List Int) : ∀ f c, (∀ j : Nat, j < c → (j : Int) ∈ l) → l.length < c + f → ((lfN l f c : Nat) : Int) ∉ l ∧ ∀ j : Nat, j < lfN l f c → (j : Int) ∈ l
 | 0, c, h, hl => by have := pig c l h; omega
 | f + 1, c, h, hl => by
  unfold lfN
  split
  ·rename_i hc
   refine Hn l f (c + 1) (fun j hj => ?_) (by omega)
   rcases Nat.lt_or_ge j c with h1 | h1
   ·exact h j h1
   ·rw [show j = c by omega]; exact hc
  ·rename_i hc; exact ⟨hc, h⟩
def l6 (l : List Int) : Nat := lfN l (l.length + 1) 0
theorem pn (l : List Int) : ((l6 l : Nat) : Int) ∉ l ∧ ∀ j : Nat, j < l6 l → (j : Int) ∈ l := Hn l _ 0 (fun j hj => absurd hj (Nat.not_lt_zero _)) (by omega)
theorem Om (l : List Int) : l6 l ≤ l.length := pig _ _ (pn l).2
theorem On {l : List Int} {c : Nat} (h1 : (c : Int) ∉ l) (h2 : ∀ j : Nat, j < c → (j : Int) ∈ l) : l6 l = c := by
 obtain ⟨h3, h4⟩ := pn l
 rcases Nat.lt_trichotomy (l6 l) c with h | h | h
 ·exact absurd (h2 _ h) h3
 ·exact h
 ·exact absurd (h4 _ h) h1
def atL (out ws : List Int) : List Int := ws.map fun w => gi out w.toNat
theorem Il (out ws : List Int) (w : Int) : atL out (ws ++ [w]) = atL out ws ++ [gi out w.toNat] := by simp [atL]
theorem vg (out ws : List Int) : (atL out ws).length = ws.length := by simp [atL]
section
variable {nb nb' : Nat → List Int} {ord : List Int} {n : Nat}
def ch (nb : Nat → List Int) (ord : List Int) (n : Nat) : Nat → List Int
 | 0 => List.replicate n (-1)
 | k + 1 => (ch nb ord n k).set (gi ord k).toNat (l6 (atL (ch nb ord n k) (nb (gi ord k).toNat)))
theorem j8 : ∀ k, (ch nb ord n k).length = n
 | 0 => by simp [ch]
 | k + 1 => by rw [ch, List.length_set, j8 k]
theorem ye (h : ∀ k, k < ord.length → nb (gi ord k).toNat = nb' (gi ord k).toNat) : ∀ k, k ≤ ord.length → ch nb ord n k = ch nb' ord n k
 | 0, _ => rfl
 | k + 1, hk => by rw [ch, ch, ye h k (by omega), h k (by omega)]
def gcl (nb : Nat → List Int) (ord : List Int) (n i : Nat) : Int := l6 (atL (ch nb ord n i) (nb (gi ord i).toNat))
theorem lz (hp : dx ord n = true) : ord.length = n ∧ (∀ i, i < n → 0 ≤ gi ord i ∧ gi ord i < n) ∧ ∀ i j, i < j → j < n → gi ord i ≠ gi ord j := by
 obtain ⟨h1, h2⟩ : jl ord n ord.length ∧ ord.length = n := by simpa [dx] using hp
 rw [h2] at h1
 refine ⟨h2, fun i hi => ?_, fun i j hij hj he => ?_⟩
 ·have := cf.1 (h1 i hi).1; omega
 ·have h3 := (h1 j hj).2
  rw [kn] at h3
  refine h3 i (by rw [List.length_take]; omega) ?_
  rw [← he]
  unfold gi
  simp [List.getElem?_take, hij]
theorem E0 (hp : dx ord n = true) {v : Nat} (hv : v < n) : ∃ i, i < n ∧ gi ord i = v := by
 have h1 : (v : Int) ∈ et n := by unfold et; exact List.mem_map.2 ⟨v, List.mem_range.2 hv, rfl⟩
 obtain ⟨i, hi, he⟩ := List.getElem_of_mem ((Jo hp).symm.subset h1)
 exact ⟨i, by rw [← (lz hp).1]; exact hi, by rw [b6 hi, he]⟩
theorem pw (hp : dx ord n = true) : ∀ k, k ≤ n → ∀ i, i < k → gi (ch nb ord n k) (gi ord i).toNat = gcl nb ord n i
 | 0, _, _, hi => absurd hi (Nat.not_lt_zero _)
 | k + 1, hk, i, hi => by
  obtain ⟨h1, h2, h3⟩ := lz hp
  have h4 := h2 k (by omega)
  have h5 := h2 i (by omega)
  rw [ch, Ke (by rw [j8]; omega)]
  rcases Nat.lt_or_ge i k with h | h
  ·have := h3 i k h (by omega)
   rw [if_neg (by omega), pw hp k (by omega) i h]
  ·have : i = k := by omega
   subst this
   rw [if_pos rfl]; rfl
theorem R5 (hp : dx ord n = true) {i j : Nat} (hij : i < j) (hj : j < n) (h : gi ord i ∈ nb (gi ord j).toNat) : gcl nb ord n i ≠ gcl nb ord n j := fun he => by
 have h1 := (pn (atL (ch nb ord n j) (nb (gi ord j).toNat))).1
 refine h1 ?_
 have h2 : gi (ch nb ord n j) (gi ord i).toNat = gcl nb ord n i := pw hp j (by omega) i hij
 show gcl nb ord n j ∈ _
 rw [← he, ← h2]
 exact List.mem_map.2 ⟨_, h, rfl⟩
theorem R4 (hp : dx ord n = true) {c : Nat} (hb : ∀ v, v < n → (nb v).length ≤ c) {v : Nat} (hv : v < n) : 0 ≤ gi (ch nb ord n n) v ∧ gi (ch nb ord n n) v ≤ c := by
 obtain ⟨h1, h2, h3⟩ := lz hp
 obtain ⟨i, hi, hie⟩ := E0 hp hv
 have h4 := pw (nb := nb) hp n (Nat.le_refl _) i hi
 rw [hie, Int.toNat_natCast] at h4
 rw [h4]
 have h5 := Om (atL (ch nb ord n i) (nb (gi ord i).toNat))
 rw [vg, hie, Int.toNat_natCast] at h5
 have h6 := hb v hv
 unfold gcl
 rw [hie, Int.toNat_natCast]
 omega
theorem Fd (hp : dx ord n = true) {v w : Nat} (hv : v < n) (hw : w < n) (hne : v ≠ w) (h1 : (v : Int) ∈ nb w) (h2 : (w : Int) ∈ nb v) : gi (ch nb ord n n) v ≠ gi (ch nb ord n n) w := by
 obtain ⟨i, hi, hie⟩ := E0 hp hv
 obtain ⟨j, hj, hje⟩ := E0 hp hw
 have h4 := pw (nb := nb) hp n (Nat.le_refl _) i hi
 have h5 := pw (nb := nb) hp n (Nat.le_refl _) j hj
 rw [hie, Int.toNat_natCast] at h4
 rw [hje, Int.toNat_natCast] at h5
 rw [h4, h5]
 rcases Nat.lt_trichotomy i j with h | h | h
 ·exact R5 hp h hj (by rw [hie, hje]; exact h1)
 ·subst h; exfalso; omega
 ·exact (R5 hp h hi (by rw [hie, hje]; exact h2)).symm
def ec (bad : Nat → List Int → Bool) (ord : List Int) : Nat → List Int
 | 0 => []
 | k + 1 => if bad (gi ord k).toNat (ec bad ord k) = true then ec bad ord k else ec bad ord k ++ [gi ord k]
theorem uw {bad : Nat → List Int → Bool} : ∀ (k : Nat) {x : Int}, x ∈ ec bad ord k → ∃ i, i < k ∧ x = gi ord i
 | 0, x, h => by cases h
 | k + 1, x, h => by
  rw [ec] at h
  split at h
  ·obtain ⟨i, h1, h2⟩ := uw k h; exact ⟨i, by omega, h2⟩
  ·rcases List.mem_append.1 h with h | h
   ·obtain ⟨i, h1, h2⟩ := uw k h; exact ⟨i, by omega, h2⟩
   ·exact ⟨k, by omega, by simpa using h⟩
theorem mz {bad : Nat → List Int → Bool} : ∀ k, (ec bad ord k).length ≤ k
 | 0 => Nat.le_refl _
 | k + 1 => by
  have := mz (bad := bad) k
  rw [ec]
  split
  ·omega
  ·simp; omega
theorem Bj {bad bad' : Nat → List Int → Bool} (h : ∀ k, k < ord.length → ∀ s : List Int, (∀ x ∈ s, ∃ i, i < k ∧ x = gi ord i) → bad (gi ord k).toNat s = bad' (gi ord k).toNat s) : ∀ k, k ≤ ord.length → ec bad ord k = ec bad' ord k
 | 0, _ => rfl
 | k + 1, hk => by
  rw [ec, ec, Bj h k (by omega), h k (by omega) _ fun x hx => uw k hx]
theorem Bi {bad : Nat → List Int → Bool} (h : ∀ v, bad v [] = false) : ∀ k, 0 < k → 0 < (ec bad ord k).length
 | k + 1, _ => by
  rw [ec]
  split
  ·rename_i hb
   rcases Nat.eq_zero_or_pos k with rfl | hk
   ·rw [ec, h] at hb; cases hb
   ·exact Bi h k hk
  ·simp
end
section
variable {N : Net} {k : Nat}
noncomputable def az (N : Net) (k v : Nat) : List Int := eb (fun w => inB (gi (bo N v) w) 1 k) N.ends.length
theorem fj {v : Nat} {x : Int} : x ∈ az N k v ↔ ∃ w : Nat, x = w ∧ w < N.ends.length ∧ 1 ≤ gi (bo N v) w ∧ gi (bo N v) w ≤ k := by
 unfold az eb
 constructor
 ·intro h
  obtain ⟨w, h1, rfl⟩ := List.mem_map.1 h
  obtain ⟨h2, h3⟩ := List.mem_filter.1 h1
  exact ⟨w, rfl, List.mem_range.1 h2, cf.1 h3⟩
 ·rintro ⟨w, rfl, h1, h2⟩
  exact List.mem_map.2 ⟨w, List.mem_filter.2 ⟨List.mem_range.2 h1, cf.2 h2⟩, rfl⟩
theorem ja (v : Nat) : (az N k v).length ≤ N.ends.length := ug _ _
theorem Ax (hs : Sym N.ends) {v w : Nat} (hv : v < N.ends.length) (h : (w : Int) ∈ az N k v) : (v : Int) ∈ az N k w := by
 obtain ⟨w', e, h1, h2, h3⟩ := fj.1 h
 have : w' = w := by omega
 subst this
 rw [Sc hs hv h1] at h2 h3
 exact fj.2 ⟨v, rfl, hv, h2, h3⟩
theorem sj (hs : Sym N.ends) {v : Nat} (hv : v < N.ends.length) : (v : Int) ∉ az N k v := fun h => by
 obtain ⟨w', e, h1, h2, h3⟩ := fj.1 h
 have : w' = v := by omega
 subst this
 rw [(di hs hv).root] at h2
 omega
theorem Hf (v : Nat) : (az N k v).Nodup := by
 unfold az eb
 exact List.Pairwise.map _ (fun a b h e => h (by exact_mod_cast e)) (List.nodup_range.filter _)
noncomputable def ik (N : Net) (k v : Nat) : List (Int × Int) := (az N k v).map fun w => (w, sx (az N k w.toNat) v)
noncomputable def dq (N : Net) (k : Nat) : Net := ⟨(List.range N.ends.length).map (ik N k), N.ids, N.inputs⟩
theorem fx : (dq N k).ends.length = N.ends.length := by simp [dq]
theorem y5 {v : Nat} (hv : v < N.ends.length) : gl (dq N k).ends v = ik N k v := by
 rw [ge (by rw [fx]; exact hv)]
 simp [dq]
theorem Qu (v : Nat) : (ik N k v).map Prod.fst = az N k v := by simp [ik, Function.comp_def]
end
end Go.Proofs.YtdiiggpohcjppaaGreat
