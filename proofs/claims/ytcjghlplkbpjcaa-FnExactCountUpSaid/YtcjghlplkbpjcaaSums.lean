/- Sums along trees: what adding each node to its parent, deeper ones first, comes to. Plain facts. -/
import Derived.Test.YtcjghlplkbpjcaaTree
import Derived.Test.YtcjghlplkbpjcaaSp3
namespace Go.Proofs.Ytcjghlplkbpjcaa

def sumTo : Nat → (Nat → Int) → Int
  | 0, _ => 0
  | n + 1, f => sumTo n f + f n

theorem sumTo_congr {f g : Nat → Int} : ∀ n, (∀ i, i < n → f i = g i) → sumTo n f = sumTo n g
  | 0, _ => rfl
  | n + 1, h => by rw [sumTo, sumTo, sumTo_congr n fun i hi => h i (by omega), h n (by omega)]
theorem sumTo_add (f g : Nat → Int) : ∀ n, sumTo n (fun u => f u + g u) = sumTo n f + sumTo n g
  | 0 => rfl
  | n + 1 => by rw [sumTo, sumTo, sumTo, sumTo_add f g n]; omega
theorem sumTo_single (c : Int) (x : Nat) : ∀ n, sumTo n (fun u => if u = x then c else 0) = if x < n then c else 0
  | 0 => rfl
  | n + 1 => by
    rw [sumTo, sumTo_single c x n]
    by_cases h : n = x
    · subst h; simp
    · rw [if_neg h]
      by_cases h2 : x < n
      · simp [h2, show x < n + 1 by omega]
      · simp [h2, show ¬ x < n + 1 by omega]
theorem sumTo_zero {f : Nat → Int} (n : Nat) (h : ∀ i, i < n → f i = 0) : sumTo n f = 0 := by
  induction n with
  | zero => rfl
  | succ n ih => rw [sumTo, ih fun i hi => h i (by omega), h n (by omega)]; rfl
theorem sumTo_nonneg {f : Nat → Int} (n : Nat) (h : ∀ i, i < n → 0 ≤ f i) : 0 ≤ sumTo n f := by
  induction n with
  | zero => exact Int.le_refl _
  | succ n ih => have := ih fun i hi => h i (by omega); have := h n (by omega); rw [sumTo]; omega
theorem sumTo_term {f : Nat → Int} (n : Nat) (h : ∀ i, i < n → 0 ≤ f i) {x : Nat} (hx : x < n) : f x ≤ sumTo n f := by
  induction n with
  | zero => omega
  | succ n ih =>
    rw [sumTo]
    by_cases e : x = n
    · subst e; have := sumTo_nonneg x fun i hi => h i (by omega); omega
    · have := ih (fun i hi => h i (by omega)) (by omega); have := h n (by omega); omega
theorem sumTo_le {f : Nat → Int} {c : Int} (n : Nat) (h : ∀ i, i < n → f i ≤ c) : sumTo n f ≤ n * c := by
  induction n with
  | zero => simp [sumTo]
  | succ n ih =>
    have h1 := ih fun i hi => h i (by omega)
    have h2 := h n (by omega)
    rw [sumTo, Int.natCast_succ, Int.add_mul]; omega

theorem gi_set {s : List Int} {x u : Nat} {c : Int} (hx : x < s.length) : gi (s.set x c) u = if u = x then c else gi s u := by
  simp only [gi, List.getD_eq_getElem?_getD, List.getElem?_set]
  by_cases h : x = u
  · subst h; simp [hx]
  · rw [if_neg h, if_neg (fun e => h e.symm)]

/-- the state behind the nodes V, which have been added to their parents -/
structure SInv (n : Nat) (pa : Nat → Nat) (r : Nat) (M : Int) (vals s : List Int) (V : Nat → Bool) : Prop where
  len : s.length = n
  eq : ∀ v, v < n → gi s v = gi vals v + sumTo n (fun u => if V u = true ∧ u ≠ r ∧ pa u = v then gi s u else 0)
  bd : sumTo n (fun u => if V u = true then 0 else ((gi s u).natAbs : Int)) ≤ M
  bv : ∀ u, u < n → V u = true → ((gi s u).natAbs : Int) ≤ M

/-- the digits that the nodes V have sent -/
def sentBy (n r : Nat) (s : List Int) (V : Nat → Bool) : Int := sumTo n (fun u => if V u = true ∧ u ≠ r then (bitsN (gi s u).natAbs : Int) + 1 else 0)

theorem SInv.abs {n : Nat} {pa : Nat → Nat} {r : Nat} {M : Int} {vals s : List Int} {V : Nat → Bool} (h : SInv n pa r M vals s V) {u : Nat} (hu : u < n) : ((gi s u).natAbs : Int) ≤ M := by
  cases hv : V u
  · have := sumTo_term (f := fun u => if V u = true then 0 else ((gi s u).natAbs : Int)) n (fun i _ => by show (0 : Int) ≤ if V i = true then 0 else _; split <;> omega) hu
    simp only [hv, Bool.false_eq_true, if_false] at this
    have := h.bd
    omega
  · exact h.bv u hu hv

theorem SInv.step {n : Nat} {pa : Nat → Nat} {r : Nat} {M : Int} {vals s : List Int} {V V' : Nat → Bool} {x : Nat} (h : SInv n pa r M vals s V) (hx : x < n) (hr : x ≠ r) (hv : V x = false)
    (hp : pa x < n) (hpv : V (pa x) = false) (hne : pa x ≠ x) (hV : ∀ u, u < n → (V' u = true ↔ V u = true ∨ u = x)) :
    SInv n pa r M vals (s.set (pa x) (gi s (pa x) + gi s x)) V' ∧ sentBy n r (s.set (pa x) (gi s (pa x) + gi s x)) V' = sentBy n r s V + (bitsN (gi s x).natAbs + 1) ∧ gi (s.set (pa x) (gi s (pa x) + gi s x)) x = gi s x := by
  have hps : pa x < s.length := by rw [h.len]; exact hp
  have hset : ∀ u, gi (s.set (pa x) (gi s (pa x) + gi s x)) u = if u = pa x then gi s (pa x) + gi s x else gi s u := fun u => gi_set hps
  have hkeep : ∀ u, u < n → V' u = true → gi (s.set (pa x) (gi s (pa x) + gi s x)) u = gi s u := by
    intro u hu hvu
    rw [hset, if_neg]
    rintro rfl
    rcases (hV _ hu).1 hvu with h1 | h1
    · rw [hpv] at h1; cases h1
    · exact hne h1
  refine ⟨⟨by rw [List.length_set]; exact h.len, fun v hv' => ?_, ?_, fun u hu hvu => ?_⟩, ?_, by rw [hset, if_neg (fun e => hne e.symm)]⟩
  · have e1 : sumTo n (fun u => if V' u = true ∧ u ≠ r ∧ pa u = v then gi (s.set (pa x) (gi s (pa x) + gi s x)) u else 0) =
        sumTo n (fun u => (if V u = true ∧ u ≠ r ∧ pa u = v then gi s u else 0) + (if u = x then (if pa x = v then gi s x else 0) else 0)) := by
      refine sumTo_congr n fun u hu => ?_
      by_cases hux : u = x
      · subst hux
        have : V' u = true := (hV u hu).2 (.inr rfl)
        rw [hkeep u hu this]
        simp [this, hv, hr]
      · by_cases hvu : V u = true
        · have : V' u = true := (hV u hu).2 (.inl hvu)
          rw [hkeep u hu this]
          simp [this, hvu, hux]
        · have : ¬ V' u = true := fun h1 => Or.elim ((hV u hu).1 h1) hvu hux
          simp [this, hvu, hux]
    rw [e1, sumTo_add, sumTo_single, if_pos hx, hset]
    have := h.eq v hv'
    by_cases hvp : v = pa x
    · subst hvp; simp only [if_true]; omega
    · rw [if_neg hvp, if_neg (fun e => hvp e.symm)]; omega
  · have e1 : sumTo n (fun u => if V' u = true then 0 else ((gi (s.set (pa x) (gi s (pa x) + gi s x)) u).natAbs : Int)) =
        sumTo n (fun u => (if V u = true then 0 else ((gi s u).natAbs : Int)) + ((if u = x then -((gi s x).natAbs : Int) else 0) + (if u = pa x then ((gi s (pa x) + gi s x).natAbs : Int) - ((gi s (pa x)).natAbs : Int) else 0))) := by
      refine sumTo_congr n fun u hu => ?_
      by_cases hux : u = x
      · subst hux
        have : V' u = true := (hV u hu).2 (.inr rfl)
        simp [this, hv, hne.symm]; omega
      · by_cases hup : u = pa x
        · have h2 : ¬ V' u = true := fun h1 => by
            rcases (hV u hu).1 h1 with h2 | h2
            · rw [hup, hpv] at h2; cases h2
            · exact hux h2
          have h3 : ¬ V u = true := by rw [hup, hpv]; simp
          rw [hset, if_neg h2, if_neg h3, if_pos hup, if_neg hux, if_pos hup, hup]; omega
        · rw [hset, if_neg hup]
          by_cases hvu : V u = true
          · have : V' u = true := (hV u hu).2 (.inl hvu)
            simp [this, hvu, hux, hup]
          · have : ¬ V' u = true := fun h1 => Or.elim ((hV u hu).1 h1) hvu hux
            simp [this, hvu, hux, hup]
    rw [e1, sumTo_add, sumTo_add, sumTo_single, sumTo_single, if_pos hx, if_pos hp]
    have := h.bd
    omega
  · rw [hkeep u hu hvu]
    exact h.abs hu
  · unfold sentBy
    have e1 : sumTo n (fun u => if V' u = true ∧ u ≠ r then (bitsN (gi (s.set (pa x) (gi s (pa x) + gi s x)) u).natAbs : Int) + 1 else 0) =
        sumTo n (fun u => (if V u = true ∧ u ≠ r then (bitsN (gi s u).natAbs : Int) + 1 else 0) + (if u = x then (bitsN (gi s x).natAbs : Int) + 1 else 0)) := by
      refine sumTo_congr n fun u hu => ?_
      by_cases hux : u = x
      · subst hux
        have : V' u = true := (hV u hu).2 (.inr rfl)
        rw [hkeep u hu this]
        simp [this, hv, hr]
      · by_cases hvu : V u = true
        · have : V' u = true := (hV u hu).2 (.inl hvu)
          rw [hkeep u hu this]
          simp [this, hvu, hux]
        · have : ¬ V' u = true := fun h1 => Or.elim ((hV u hu).1 h1) hvu hux
          simp [this, hvu, hux]
    rw [e1, sumTo_add, sumTo_single, if_pos hx]

theorem SInv.start {n : Nat} (pa : Nat → Nat) (r : Nat) {vals : List Int} {V : Nat → Bool} (hl : vals.length = n) (hV : ∀ u, u < n → V u = false) (hb : ∀ u, u < n → ((gi vals u).natAbs : Int) ≤ 1000000) :
    SInv n pa r (n * 1000000) vals vals V ∧ sentBy n r vals V = 0 := by
  refine ⟨⟨hl, fun v _ => ?_, ?_, fun u hu h => ?_⟩, ?_⟩
  · rw [sumTo_zero n fun u hu => by simp [hV u hu]]; omega
  · exact sumTo_le n fun u hu => by simp only [hV u hu, Bool.false_eq_true, if_false]; exact hb u hu
  · rw [hV u hu] at h; cases h
  · exact sumTo_zero n fun u hu => by simp [hV u hu]

theorem SInv.congr {n : Nat} {pa : Nat → Nat} {r : Nat} {M : Int} {vals s : List Int} {V V' : Nat → Bool} (h : SInv n pa r M vals s V) (hV : ∀ u, u < n → V' u = V u) : SInv n pa r M vals s V' ∧ sentBy n r s V' = sentBy n r s V := by
  refine ⟨⟨h.len, fun v hv => ?_, ?_, fun u hu hvu => h.bv u hu (by rw [← hV u hu]; exact hvu)⟩, ?_⟩
  · rw [sumTo_congr n fun u hu => by rw [hV u hu]]; exact h.eq v hv
  · rw [sumTo_congr n fun u hu => by rw [hV u hu]]; exact h.bd
  · exact sumTo_congr n fun u hu => by rw [hV u hu]
/-- the root is not added to anything -/
theorem SInv.skip {n : Nat} {pa : Nat → Nat} {r : Nat} {M : Int} {vals s : List Int} {V V' : Nat → Bool} (h : SInv n pa r M vals s V) (hV : ∀ u, u < n → u ≠ r → V' u = V u) (hVr : V r = true → V' r = true) : SInv n pa r M vals s V' ∧ sentBy n r s V' = sentBy n r s V := by
  refine ⟨⟨h.len, fun v hv => ?_, ?_, fun u hu _ => h.abs hu⟩, ?_⟩
  · rw [sumTo_congr (g := fun u => if V u = true ∧ u ≠ r ∧ pa u = v then gi s u else 0) n fun u hu => by
      by_cases hr : u = r
      · simp [hr]
      · rw [hV u hu hr]]
    exact h.eq v hv
  · refine Int.le_trans ?_ h.bd
    have : ∀ m, m ≤ n → sumTo m (fun u => if V' u = true then 0 else ((gi s u).natAbs : Int)) ≤ sumTo m (fun u => if V u = true then 0 else ((gi s u).natAbs : Int)) := by
      intro m
      induction m with
      | zero => intro _; exact Int.le_refl _
      | succ m ih =>
        intro hm
        have h1 := ih (by omega)
        simp only [sumTo]
        by_cases hr : m = r
        · subst hr
          by_cases h2 : V m = true
          · rw [if_pos h2, if_pos (hVr h2)]; omega
          · rw [if_neg h2]
            by_cases h3 : V' m = true
            · rw [if_pos h3]; omega
            · rw [if_neg h3]; omega
        · rw [hV m (by omega) hr]; omega
    exact this n (Nat.le_refl _)
  · exact sumTo_congr n fun u hu => by
      by_cases hr : u = r
      · simp [hr]
      · rw [hV u hu hr]

/-- the sums of a tree -/
def Final (n : Nat) (pa : Nat → Nat) (r : Nat) (vals s : List Int) : Prop := s.length = n ∧ ∀ v, v < n → gi s v = gi vals v + sumTo n (fun u => if u ≠ r ∧ pa u = v then gi s u else 0)
def bitsAll (n r : Nat) (s : List Int) : Int := sumTo n (fun u => if u ≠ r then (bitsN (gi s u).natAbs : Int) + 1 else 0)

theorem SInv.final {n : Nat} {pa : Nat → Nat} {r : Nat} {M : Int} {vals s : List Int} {V : Nat → Bool} (h : SInv n pa r M vals s V) (hV : ∀ u, u < n → u ≠ r → V u = true) : Final n pa r vals s ∧ sentBy n r s V = bitsAll n r s := by
  refine ⟨⟨h.len, fun v hv => ?_⟩, ?_⟩
  · rw [h.eq v hv]
    congr 1
    exact sumTo_congr n fun u hu => by
      by_cases hr : u = r
      · simp [hr]
      · simp [hV u hu hr, hr]
  · exact sumTo_congr n fun u hu => by
      by_cases hr : u = r
      · simp [hr]
      · simp [hV u hu hr, hr]

theorem Final.unique {n : Nat} {pa : Nat → Nat} {r : Nat} {vals s s' : List Int} (ds : Nat → Int) (hd : ∀ u, u < n → u ≠ r → ds u = ds (pa u) + 1) (hb : ∀ u, u < n → ds u ≤ n)
    (h : Final n pa r vals s) (h' : Final n pa r vals s') : s = s' := by
  have key : ∀ k : Nat, ∀ v, v < n → (n : Int) < ds v + k → gi s v = gi s' v := by
    intro k
    induction k with
    | zero => intro v hv h1; have := hb v hv; omega
    | succ k ih =>
      intro v hv h1
      rw [h.2 v hv, h'.2 v hv]
      congr 1
      refine sumTo_congr n fun u hu => ?_
      by_cases hc : u ≠ r ∧ pa u = v
      · rw [if_pos hc, if_pos hc]
        have := hd u hu hc.1
        rw [hc.2] at this
        exact ih u hu (by omega)
      · rw [if_neg hc, if_neg hc]
  refine ints_ext' (h.1.trans h'.1.symm) fun j hj => ?_
  have hj' : j < n := by rw [← h.1]; exact hj
  have := hb j hj'
  exact key ((n : Int) - ds j + 1).toNat j hj' (by omega)
/-- h is the greatest of some numbers -/
def IsMax (xs : List Int) (h : Int) : Prop := (∀ v, v < xs.length → gi xs v ≤ h) ∧ ∃ v, v < xs.length ∧ gi xs v = h
theorem IsMax.unique {xs : List Int} {h h' : Int} (a : IsMax xs h) (b : IsMax xs h') : h = h' := by
  obtain ⟨a1, v, hv, a2⟩ := a
  obtain ⟨b1, u, hu, b2⟩ := b
  have := a1 u hu
  have := b1 v hv
  omega
end Go.Proofs.Ytcjghlplkbpjcaa
