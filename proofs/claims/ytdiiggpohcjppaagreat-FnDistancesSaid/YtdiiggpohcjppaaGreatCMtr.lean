/- Distances in a network are a metric; balls, shells, ways along first ports. Plain facts; no program in sight. -/
import Derived.Test.YtdiiggpohcjppaaGreatCJn10
set_option linter.unusedSimpArgs false
set_option linter.unusedVariables false
namespace Go.Proofs.YtdiiggpohcjppaaGreat
section
variable {N : Net}
theorem dist_move (hs : Sym N.ends) {u x j : Nat} (hu : u < N.ends.length) (hj : j < (gl N.ends u).length) (hx : nd N u j = x) : ∀ (k : Nat) y, y < N.ends.length → gi (dists N x) y = k → 0 ≤ gi (dists N u) y ∧ gi (dists N u) y ≤ k + 1
 | 0, y, hy, h => by
  have hxl : x < N.ends.length := hx ▸ (sym_nd hs hu hj).1
  have := (dists_is hs hxl).zero y hy (by simpa using h)
  have h1 := (dists_is hs hu).step u hu (by rw [(dists_is hs hu).root]; exact Int.le_refl _) j hj
  rw [hx, (dists_is hs hu).root] at h1
  rw [this]
  simpa using h1
 | k + 1, y, hy, h => by
  have hxl : x < N.ends.length := hx ▸ (sym_nd hs hu hj).1
  obtain ⟨i, hi, h2⟩ := (dists_is hs hxl).back y hy (by omega)
  obtain ⟨h3, h4, h5, -⟩ := sym_nd hs hy hi
  have ih := dist_move hs hu hj hx k _ h3 (by omega)
  have := (dists_is hs hu).step _ h3 ih.1 _ h4
  rw [h5] at this
  omega
theorem dist_turn (hs : Sym N.ends) {u : Nat} (hu : u < N.ends.length) : ∀ (k : Nat) w, w < N.ends.length → gi (dists N u) w = k → 0 ≤ gi (dists N w) u ∧ gi (dists N w) u ≤ k
 | 0, w, hw, h => by
  have := (dists_is hs hu).zero w hw (by simpa using h)
  rw [this, (dists_is hs hu).root]; simp
 | k + 1, w, hw, h => by
  obtain ⟨j, hj, h2⟩ := (dists_is hs hu).back w hw (by omega)
  have h3 := (sym_nd hs hw hj).1
  have ih := dist_turn hs hu k _ h3 (by omega)
  obtain ⟨m, hm⟩ := Int.eq_ofNat_of_zero_le ih.1
  have := dist_move hs hw hj rfl m u hu hm
  omega
theorem dist_sym (hs : Sym N.ends) {u w : Nat} (hu : u < N.ends.length) (hw : w < N.ends.length) : gi (dists N u) w = gi (dists N w) u := by
 have h1 := (dists_is hs hu).low w hw
 have h2 := (dists_is hs hw).low u hu
 by_cases hx0 : 0 ≤ gi (dists N u) w
 ·obtain ⟨k, hk⟩ := Int.eq_ofNat_of_zero_le hx0
  have h3 := dist_turn hs hu k w hw hk
  obtain ⟨m, hm⟩ := Int.eq_ofNat_of_zero_le h3.1
  have h4 := dist_turn hs hw m u hu hm
  omega
 ·by_cases hy0 : 0 ≤ gi (dists N w) u
  ·obtain ⟨k, hk⟩ := Int.eq_ofNat_of_zero_le hy0
   have h3 := dist_turn hs hw k u hu hk
   omega
  ·omega
theorem dist_tri (hs : Sym N.ends) {u c : Nat} (hu : u < N.ends.length) (hc : c < N.ends.length) (h0 : 0 ≤ gi (dists N u) c) : ∀ (k : Nat) w, w < N.ends.length → gi (dists N c) w = k → 0 ≤ gi (dists N u) w ∧ gi (dists N u) w ≤ gi (dists N u) c + k
 | 0, w, hw, h => by
  have := (dists_is hs hc).zero w hw (by simpa using h)
  rw [this]; exact ⟨h0, by simp⟩
 | k + 1, w, hw, h => by
  obtain ⟨j, hj, h2⟩ := (dists_is hs hc).back w hw (by omega)
  obtain ⟨h3, h4, h5, -⟩ := sym_nd hs hw hj
  have ih := dist_tri hs hu hc h0 k _ h3 (by omega)
  have := (dists_is hs hu).step _ h3 ih.1 _ h4
  rw [h5] at this
  omega
theorem dist_near (hs : Sym N.ends) {u x j : Nat} (hu : u < N.ends.length) (hx : x < N.ends.length) (hj : j < (gl N.ends x).length) : gi (dists N u) x - gi (dists N u) (nd N x j) ≤ 1 ∧ (gi (dists N u) x < 0 ↔ gi (dists N u) (nd N x j) < 0) := by
 obtain ⟨h3, h4, h5, -⟩ := sym_nd hs hx hj
 have D := dists_is hs hu
 by_cases h0 : 0 ≤ gi (dists N u) x
 ·have h1 := D.step x hx h0 j hj
  have h2 := D.step _ h3 h1.1 _ h4
  rw [h5] at h2
  omega
 ·by_cases h1 : 0 ≤ gi (dists N u) (nd N x j)
  ·have h2 := D.step _ h3 h1 _ h4
   rw [h5] at h2
   omega
  ·have := D.low x hx
   have := D.low _ h3
   omega
theorem dist_lt (hs : Sym N.ends) {u w : Nat} (hu : u < N.ends.length) (hw : w < N.ends.length) : gi (dists N u) w < N.ends.length := (dists_ok hs hu).lt hs hw
theorem prt_step {d : List Int} {r x : Nat} (hd : IsDist N r d) (hx : x < N.ends.length) (h0 : 0 < gi d x) : ∃ i : Nat, prt N d x = i ∧ i < (gl N.ends x).length ∧ gi d (nd N x i) = gi d x - 1 ∧ ∀ j, j < i → (gi d (nd N x j) == gi d x - 1) = false := by
 unfold prt
 rw [if_neg (by omega)]
 rcases fstI_cases (gl N.ends x).length fun j => gi d (nd N x j) == gi d x - 1 with ⟨h1, h2⟩ | ⟨m, h1, h2, h3, h4⟩
 ·obtain ⟨j, hj, h5⟩ := hd.back x hx h0
  have := h2 j hj
  simp [h5] at this
 ·exact ⟨m, h1, h2, by simpa using h3, h4⟩
def pth (N : Net) (d : List Int) : Nat → Nat → List Int
 | 0, _ => []
 | k + 1, x => prt N d x :: pth N d k (nd N x (prt N d x).toNat)
theorem pth_len (d : List Int) : ∀ k x, (pth N d k x).length = k
 | 0, _ => rfl
 | k + 1, x => by rw [pth, List.length_cons, pth_len d k]
def wayN (N : Net) (d : List Int) (x : Nat) : Nat → Nat
 | 0 => x
 | i + 1 => nd N (wayN N d x i) (prt N d (wayN N d x i)).toNat
theorem wayN_shift (d : List Int) (x : Nat) : ∀ i, wayN N d (nd N x (prt N d x).toNat) i = wayN N d x (i + 1)
 | 0 => rfl
 | i + 1 => by
  show nd N (wayN N d _ i) _ = _
  rw [wayN_shift d x i]; rfl
theorem pth_gi (d : List Int) : ∀ k x i, i < k → gi (pth N d k x) i = prt N d (wayN N d x i)
 | 0, _, _, h => by omega
 | k + 1, x, 0, _ => rfl
 | k + 1, x, i + 1, h => by
  show gi (pth N d k _) i = _
  rw [pth_gi d k _ i (by omega), wayN_shift]
theorem wayN_dist (hs : Sym N.ends) {d : List Int} {r x : Nat} (hd : IsDist N r d) (hx : x < N.ends.length) (h0 : 0 ≤ gi d x) : ∀ i : Nat, (i : Int) ≤ gi d x → wayN N d x i < N.ends.length ∧ gi d (wayN N d x i) = gi d x - i
 | 0, _ => ⟨hx, by simp [wayN]⟩
 | i + 1, h => by
  obtain ⟨h1, h2⟩ := wayN_dist hs hd hx h0 i (by omega)
  obtain ⟨j, h3, h4, h5, -⟩ := prt_step hd h1 (by omega)
  rw [wayN, h3, Int.toNat_natCast]
  exact ⟨(sym_nd hs h1 h4).1, by rw [h5, h2]; push_cast; omega⟩
theorem wayN_end (hs : Sym N.ends) {d : List Int} {r x : Nat} (hd : IsDist N r d) (hx : x < N.ends.length) {k : Nat} (h : gi d x = k) : wayN N d x k = r := by
 obtain ⟨h1, h2⟩ := wayN_dist hs hd hx (by omega) k (by omega)
 exact hd.zero _ h1 (by omega)
theorem pth_take (d : List Int) (x : Nat) : ∀ k, pth N d (k + 1) x = pth N d k x ++ [prt N d (wayN N d x k)]
 | 0 => rfl
 | k + 1 => by
  rw [pth, pth_take d _ k, wayN_shift]; rfl
def cnt (n : Nat) (p : Nat → Bool) : Int := sumTo n fun j => if p j = true then 1 else 0
theorem cnt_succ (n : Nat) (p : Nat → Bool) : cnt (n + 1) p = cnt n p + if p n = true then 1 else 0 := rfl
theorem cnt_bnd (p : Nat → Bool) : ∀ n, 0 ≤ cnt n p ∧ cnt n p ≤ n
 | 0 => by simp [cnt, sumTo]
 | n + 1 => by
  have := cnt_bnd p n
  rw [cnt_succ]
  split <;> omega
theorem shells_ball (l : List Int) (r m : Int) (D : Nat) (hD : ∀ j, j < l.length → gi l j < D) : sumTo D (fun d => if (d : Int) ≤ r then cnt l.length (fun j => gi l j == d) else 0) = cnt l.length fun j => decide (0 ≤ gi l j) && decide (gi l j ≤ r) := by
 have h1 : sumTo D (fun d => if (d : Int) ≤ r then cnt l.length (fun j => gi l j == d) else 0) = sumTo D (fun d => sumTo l.length fun j => if (d : Int) ≤ r ∧ gi l j = d then 1 else 0) := by
  refine sumTo_congr _ fun d hd => ?_
  by_cases hr : (d : Int) ≤ r
  ·rw [if_pos hr]
   exact sumTo_congr _ fun j hj => by simp [hr]
  ·rw [if_neg hr, sumTo_zero]
   exact fun j hj => by simp [hr]
 rw [h1, sumTo_swap]
 refine sumTo_congr _ fun j hj => ?_
 have hlt := hD j hj
 by_cases h0 : 0 ≤ gi l j
 ·obtain ⟨k, hk⟩ := Int.eq_ofNat_of_zero_le h0
  by_cases hr : gi l j ≤ r
  ·rw [if_pos (by simp [h0, hr])]
   have h2 : sumTo D (fun d => if (d : Int) ≤ r ∧ gi l j = d then (1 : Int) else 0) = sumTo D fun d => if d = k then 1 else 0 := sumTo_congr _ fun d hd => by
    by_cases e : d = k
    ·subst e; rw [if_pos ⟨by omega, hk⟩, if_pos rfl]
    ·rw [if_neg (by omega), if_neg e]
   rw [h2, sumTo_single, if_pos (by omega)]
  ·rw [if_neg (by simp [hr]), sumTo_zero]
   exact fun d hd => by rw [if_neg (by omega)]
 ·rw [if_neg (by simp [h0]), sumTo_zero]
  exact fun d hd => by rw [if_neg (by omega)]
def mx0 (l : List Int) : Int := l.foldl max 0
theorem foldl_max_ge (l : List Int) : ∀ a : Int, a ≤ l.foldl max a ∧ (∀ x ∈ l, x ≤ l.foldl max a) ∧ (l.foldl max a = a ∨ l.foldl max a ∈ l) := by
 induction l with
 | nil => exact fun a => ⟨Int.le_refl _, fun x hx => by simp at hx, .inl rfl⟩
 | cons y l ih =>
  intro a
  obtain ⟨h1, h2, h3⟩ := ih (max a y)
  refine ⟨Int.le_trans (Int.le_max_left _ _) h1, fun x hx => ?_, ?_⟩
  ·rcases List.mem_cons.1 hx with rfl | hx
   ·exact Int.le_trans (Int.le_max_right _ _) h1
   ·exact h2 x hx
  ·rw [List.foldl_cons]
   rcases h3 with h3 | h3
   ·rcases Int.le_total a y with h | h
    ·exact .inr (by rw [h3, Int.max_eq_right h]; exact List.mem_cons_self)
    ·exact .inl (by rw [h3, Int.max_eq_left h])
   ·exact .inr (List.mem_cons_of_mem _ h3)
theorem mx0_ge {l : List Int} {x : Int} (h : x ∈ l) : x ≤ mx0 l := (foldl_max_ge l 0).2.1 x h
theorem mx0_pos (l : List Int) : 0 ≤ mx0 l := (foldl_max_ge l 0).1
theorem mx0_mem (l : List Int) : mx0 l = 0 ∨ mx0 l ∈ l := (foldl_max_ge l 0).2.2
theorem mx0_take (l : List Int) {k : Nat} (hk : k < l.length) : mx0 (l.take (k + 1)) = max (mx0 (l.take k)) (gi l k) := by
 unfold mx0
 rw [List.take_succ_eq_append_getElem hk, List.foldl_append, ← gi_lt hk]; rfl
noncomputable def ecc (N : Net) (v : Nat) : Int := mx0 (dists N v)
theorem dist_mem (hs : Sym N.ends) {v w : Nat} (hv : v < N.ends.length) (hw : w < N.ends.length) : gi (dists N v) w ∈ dists N v := by
 have hl : w < (dists N v).length := by rw [(dists_is hs hv).len]; exact hw
 rw [gi_lt hl]; exact List.getElem_mem hl
theorem ecc_ge (hs : Sym N.ends) {v w : Nat} (hv : v < N.ends.length) (hw : w < N.ends.length) : gi (dists N v) w ≤ ecc N v := mx0_ge (dist_mem hs hv hw)
theorem ecc_at (hs : Sym N.ends) {v : Nat} (hv : v < N.ends.length) : ∃ w, w < N.ends.length ∧ gi (dists N v) w = ecc N v := by
 have D := dists_is hs hv
 rcases mx0_mem (dists N v) with h | h
 ·exact ⟨v, hv, D.root.trans h.symm⟩
 ·obtain ⟨w, hw, h1⟩ := List.getElem_of_mem h
  exact ⟨w, by rw [← D.len]; exact hw, by rw [gi_lt hw]; exact h1⟩
theorem ecc_bnd (hs : Sym N.ends) {v : Nat} (hv : v < N.ends.length) : 0 ≤ ecc N v ∧ ecc N v < N.ends.length := by
 obtain ⟨w, hw, h⟩ := ecc_at hs hv
 exact ⟨mx0_pos _, by rw [← h]; exact dist_lt hs hv hw⟩
noncomputable def eccs (N : Net) : List Int := tab N.ends.length (ecc N)
theorem ecc_double (hs : Sym N.ends) {v c : Nat} (hv : v < N.ends.length) (hc : c < N.ends.length) (hcn : ∀ u, u < N.ends.length → 0 ≤ gi (dists N c) u) : ecc N v ≤ 2 * ecc N c := by
 obtain ⟨w, hw, h⟩ := ecc_at hs hv
 have e1 := dist_sym hs hv hc
 have h1 := hcn v hv
 obtain ⟨k, hk⟩ := Int.eq_ofNat_of_zero_le (hcn w hw)
 have h2 := dist_tri hs hv hc (by omega) k w hw hk
 have h3 := ecc_ge hs hc hv
 have h4 := ecc_ge hs hc hw
 omega
end
end Go.Proofs.YtdiiggpohcjppaaGreat
