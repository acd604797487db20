/- Parts of the proof, joined: Sp3, Sums, Bfs, Srt, Srt2, Srt3, Wav. -/
import Derived.Test.YtlaahgdikiiahaaGreatCJn10
import Derived.Lib.BitFns
import Derived.Test.YtlaahgdikiiahaaGreatCJn8
set_option linter.unusedSimpArgs false
set_option linter.unusedVariables false
namespace Go.Proofs.YtlaahgdikiiahaaGreat
section
open Go.RowKit
theorem l1Abs_any (a : Int) (w : World) (h1 : -1000000000000 ≤ a) (h2 : a ≤ 1000000000000) : Calls Tryz.prog 96 #[.int .i64 a] w (RetQ w (.int .i64 (a.natAbs : Int))) := by
 have HE : Hid (max a (-a) = (a.natAbs : Int)) := by show max a (-a) = _; omega
 go_enter Tryz.func96, Tryz.ntmps96
 go_wp2_with (go_at_call 95; refine (l1Most_any _ _ _).mono ?_; rintro e w1 ⟨rfl, rfl⟩)
 go_ret
 exact ⟨by rw [← HE.out]; rfl, rfl⟩
def bitsN (n : Nat) : Nat := max (Lib.bitLen n) 1
theorem bitLenAux_le : ∀ f x, Lib.bitLenAux f x ≤ f
 | 0, _ => Nat.le_refl _
 | f + 1, x => by
  unfold Lib.bitLenAux
  split
  ·omega
  ·have := bitLenAux_le f (x / 2); omega
theorem bitLenAux_mono : ∀ f x, x < 2 ^ f → Lib.bitLenAux (f + 1) x = Lib.bitLenAux f x
 | 0, x, h => by
  obtain rfl : x = 0 := by simpa using h
  rfl
 | f + 1, x, h => by
  rw [Lib.bitLenAux]
  conv => rhs; rw [Lib.bitLenAux]
  split
  ·rfl
  ·rw [bitLenAux_mono f (x / 2) (by rw [Nat.pow_succ] at h; omega)]
theorem bitLen_half {x : Nat} (h : 0 < x) (hx : x < 18446744073709551616) : Lib.bitLen x = 1 + Lib.bitLen (x / 2) := by
 unfold Lib.bitLen
 conv => lhs; rw [Lib.bitLenAux]
 rw [if_neg (by omega), ← bitLenAux_mono 63 (x / 2) (by simp; omega)]
theorem bitsN_half {x : Nat} (h : 1 < x) (hx : x < 18446744073709551616) : bitsN x = 1 + bitsN (x / 2) := by
 have h1 := bitLen_half (x := x) (by omega) hx
 have h2 := bitLen_half (x := x / 2) (by omega) (by omega)
 unfold bitsN
 omega
theorem bitsN_small {x : Nat} (h : x ≤ 1) : bitsN x = 1 := by
 rcases x with _ | x
 ·rfl
 ·obtain rfl : x = 0 := by omega
  rfl
theorem bitsN_le (x : Nat) : 1 ≤ bitsN x ∧ bitsN x ≤ 64 := by
 have := bitLenAux_le 64 x
 unfold bitsN Lib.bitLen
 omega
set_option maxHeartbeats 400000 in
theorem biBits_any (x : Int) (w : World) (h1 : -1000000000000 ≤ x) (h2 : x ≤ 1000000000000) : Calls Tryz.prog 52 #[.int .i64 x] w (RetQ w (.int .i64 (bitsN x.natAbs))) := by
 have C := Lib.hid (l1Abs_any x w h1 h2)
 have hle : x.natAbs ≤ 1000000000000 := by omega
 obtain ⟨n, hn⟩ : ∃ n, n = x.natAbs := ⟨_, rfl⟩
 rw [← hn] at C hle ⊢
 clear hn h1 h2
 go_enter Tryz.func52, Tryz.ntmps52
 go_wp2_with (go_at_call 96; refine C.out.mono ?_; rintro e w1 ⟨rfl, rfl⟩)
 go_loop [0, 3] (fun y b => ∃ m c : Nat, y = .int .i64 m ∧ b = .int .i64 c ∧ m ≤ n ∧ c + bitsN m = bitsN n + 1 ∧ c ≤ 65) (fun y _ => (intOf y).toNat)
 case atStart => exact ⟨n, 1, rfl, rfl, Nat.le_refl _, by omega, by omega⟩
 case round =>
  obtain ⟨m, c, rfl, rfl, hm, hc, hc2⟩ := hrel
  have hbm := bitsN_le m
  have hbn := bitsN_le n
  by_cases hlt : 1 < m
  ·have hh := bitsN_half (x := m) hlt (by omega)
   have HH := Lib.hid (And.intro hh hc)
   have hc3 : c ≤ 64 := by omega
   clear hh hc
   go_wp2
   go_round
   case rel =>
    refine ⟨m / 2, c + 1, by go_num, by go_num, by omega, ?_, by omega⟩
    have := HH.out
    omega
   case measure => simp [intOf]; omega
  ·have hs := bitsN_small (x := m) (by omega)
   have HE : Hid ((bitsN n : Int) = c) := by show (bitsN n : Int) = c; omega
   clear hs hc hbm hbn
   go_wp2
   go_ret
   exact ⟨by rw [HE.out]; rfl, rfl⟩
end
section
def sumTo : Nat → (Nat → Int) → Int
 | 0, _ => 0
 | n + 1, f => sumTo n f + f n
theorem sumTo_congr {f g : Nat → Int} : ∀ n, (∀ i, i < n → f i = g i) → sumTo n f = sumTo n g
 | 0, _ => rfl
 | n + 1, h => by rw [sumTo, sumTo, sumTo_congr n fun i hi => h i (by omega), h n (by omega)]
theorem sumTo_add (f g : Nat → Int) : ∀ n, sumTo n (fun u => f u + g u) = sumTo n f + sumTo n g
 | 0 => rfl
 | n + 1 => by rw [sumTo, sumTo, sumTo, sumTo_add f g n]; omega
theorem sumTo_single (c : Int) (x : Nat) : ∀ n, sumTo n (fun u => if u = x then c else 0) = if x < n then c else 0
 | 0 => rfl
 | n + 1 => by
  rw [sumTo, sumTo_single c x n]
  by_cases h : n = x
  ·subst h; simp
  ·rw [if_neg h]
   by_cases h2 : x < n
   ·simp [h2, show x < n + 1 by omega]
   ·simp [h2, show ¬ x < n + 1 by omega]
theorem sumTo_zero {f : Nat → Int} (n : Nat) (h : ∀ i, i < n → f i = 0) : sumTo n f = 0 := by
 induction n with
 | zero => rfl
 | succ n ih => rw [sumTo, ih fun i hi => h i (by omega), h n (by omega)]; rfl
theorem sumTo_nonneg {f : Nat → Int} (n : Nat) (h : ∀ i, i < n → 0 ≤ f i) : 0 ≤ sumTo n f := by
 induction n with
 | zero => exact Int.le_refl _
 | succ n ih => have := ih fun i hi => h i (by omega); have := h n (by omega); rw [sumTo]; omega
theorem sumTo_term {f : Nat → Int} (n : Nat) (h : ∀ i, i < n → 0 ≤ f i) {x : Nat} (hx : x < n) : f x ≤ sumTo n f := by
 induction n with
 | zero => omega
 | succ n ih =>
  rw [sumTo]
  by_cases e : x = n
  ·subst e; have := sumTo_nonneg x fun i hi => h i (by omega); omega
  ·have := ih (fun i hi => h i (by omega)) (by omega); have := h n (by omega); omega
theorem sumTo_le {f : Nat → Int} {c : Int} (n : Nat) (h : ∀ i, i < n → f i ≤ c) : sumTo n f ≤ n * c := by
 induction n with
 | zero => simp [sumTo]
 | succ n ih =>
  have h1 := ih fun i hi => h i (by omega)
  have h2 := h n (by omega)
  rw [sumTo, Int.natCast_succ, Int.add_mul]; omega
theorem gi_set {s : List Int} {x u : Nat} {c : Int} (hx : x < s.length) : gi (s.set x c) u = if u = x then c else gi s u := by
 simp only [gi, List.getD_eq_getElem?_getD, List.getElem?_set]
 by_cases h : x = u
 ·subst h; simp [hx]
 ·rw [if_neg h, if_neg (fun e => h e.symm)]
structure SInv (n : Nat) (pa : Nat → Nat) (r : Nat) (M : Int) (vals s : List Int) (V : Nat → Bool) : Prop where
 len : s.length = n
 eq : ∀ v, v < n → gi s v = gi vals v + sumTo n (fun u => if V u = true ∧ u ≠ r ∧ pa u = v then gi s u else 0)
 bd : sumTo n (fun u => if V u = true then 0 else ((gi s u).natAbs : Int)) ≤ M
 bv : ∀ u, u < n → V u = true → ((gi s u).natAbs : Int) ≤ M
def sentBy (n r : Nat) (s : List Int) (V : Nat → Bool) : Int := sumTo n (fun u => if V u = true ∧ u ≠ r then (bitsN (gi s u).natAbs : Int) + 1 else 0)
theorem SInv.abs {n : Nat} {pa : Nat → Nat} {r : Nat} {M : Int} {vals s : List Int} {V : Nat → Bool} (h : SInv n pa r M vals s V) {u : Nat} (hu : u < n) : ((gi s u).natAbs : Int) ≤ M := by
 cases hv : V u
 ·have := sumTo_term (f := fun u => if V u = true then 0 else ((gi s u).natAbs : Int)) n (fun i _ => by show (0 : Int) ≤ if V i = true then 0 else _; split <;> omega) hu
  simp only [hv, Bool.false_eq_true, if_false] at this
  have := h.bd
  omega
 ·exact h.bv u hu hv
theorem SInv.step {n : Nat} {pa : Nat → Nat} {r : Nat} {M : Int} {vals s : List Int} {V V' : Nat → Bool} {x : Nat} (h : SInv n pa r M vals s V) (hx : x < n) (hr : x ≠ r) (hv : V x = false)
 (hp : pa x < n) (hpv : V (pa x) = false) (hne : pa x ≠ x) (hV : ∀ u, u < n → (V' u = true ↔ V u = true ∨ u = x)) :
 SInv n pa r M vals (s.set (pa x) (gi s (pa x) + gi s x)) V' ∧ sentBy n r (s.set (pa x) (gi s (pa x) + gi s x)) V' = sentBy n r s V + (bitsN (gi s x).natAbs + 1) ∧ gi (s.set (pa x) (gi s (pa x) + gi s x)) x = gi s x := by
 have hps : pa x < s.length := by rw [h.len]; exact hp
 have hset : ∀ u, gi (s.set (pa x) (gi s (pa x) + gi s x)) u = if u = pa x then gi s (pa x) + gi s x else gi s u := fun u => gi_set hps
 have hkeep : ∀ u, u < n → V' u = true → gi (s.set (pa x) (gi s (pa x) + gi s x)) u = gi s u := by
  intro u hu hvu
  rw [hset, if_neg]
  rintro rfl
  rcases (hV _ hu).1 hvu with h1 | h1
  ·rw [hpv] at h1; cases h1
  ·exact hne h1
 refine ⟨⟨by rw [List.length_set]; exact h.len, fun v hv' => ?_, ?_, fun u hu hvu => ?_⟩, ?_, by rw [hset, if_neg (fun e => hne e.symm)]⟩
 ·have e1 : sumTo n (fun u => if V' u = true ∧ u ≠ r ∧ pa u = v then gi (s.set (pa x) (gi s (pa x) + gi s x)) u else 0) =
   sumTo n (fun u => (if V u = true ∧ u ≠ r ∧ pa u = v then gi s u else 0) + (if u = x then (if pa x = v then gi s x else 0) else 0)) := by
   refine sumTo_congr n fun u hu => ?_
   by_cases hux : u = x
   ·subst hux
    have : V' u = true := (hV u hu).2 (.inr rfl)
    rw [hkeep u hu this]
    simp [this, hv, hr]
   ·by_cases hvu : V u = true
    ·have : V' u = true := (hV u hu).2 (.inl hvu)
     rw [hkeep u hu this]
     simp [this, hvu, hux]
    ·have : ¬ V' u = true := fun h1 => Or.elim ((hV u hu).1 h1) hvu hux
     simp [this, hvu, hux]
  rw [e1, sumTo_add, sumTo_single, if_pos hx, hset]
  have := h.eq v hv'
  by_cases hvp : v = pa x
  ·subst hvp; simp only [if_true]; omega
  ·rw [if_neg hvp, if_neg (fun e => hvp e.symm)]; omega
 ·have e1 : sumTo n (fun u => if V' u = true then 0 else ((gi (s.set (pa x) (gi s (pa x) + gi s x)) u).natAbs : Int)) =
   sumTo n (fun u => (if V u = true then 0 else ((gi s u).natAbs : Int)) + ((if u = x then -((gi s x).natAbs : Int) else 0) + (if u = pa x then ((gi s (pa x) + gi s x).natAbs : Int) - ((gi s (pa x)).natAbs : Int) else 0))) := by
   refine sumTo_congr n fun u hu => ?_
   by_cases hux : u = x
   ·subst hux
    have : V' u = true := (hV u hu).2 (.inr rfl)
    simp [this, hv, hne.symm]; omega
   ·by_cases hup : u = pa x
    ·have h2 : ¬ V' u = true := fun h1 => by
      rcases (hV u hu).1 h1 with h2 | h2
      ·rw [hup, hpv] at h2; cases h2
      ·exact hux h2
     have h3 : ¬ V u = true := by rw [hup, hpv]; simp
     rw [hset, if_neg h2, if_neg h3, if_pos hup, if_neg hux, if_pos hup, hup]; omega
    ·rw [hset, if_neg hup]
     by_cases hvu : V u = true
     ·have : V' u = true := (hV u hu).2 (.inl hvu)
      simp [this, hvu, hux, hup]
     ·have : ¬ V' u = true := fun h1 => Or.elim ((hV u hu).1 h1) hvu hux
      simp [this, hvu, hux, hup]
  rw [e1, sumTo_add, sumTo_add, sumTo_single, sumTo_single, if_pos hx, if_pos hp]
  have := h.bd
  omega
 ·rw [hkeep u hu hvu]
  exact h.abs hu
 ·unfold sentBy
  have e1 : sumTo n (fun u => if V' u = true ∧ u ≠ r then (bitsN (gi (s.set (pa x) (gi s (pa x) + gi s x)) u).natAbs : Int) + 1 else 0) =
   sumTo n (fun u => (if V u = true ∧ u ≠ r then (bitsN (gi s u).natAbs : Int) + 1 else 0) + (if u = x then (bitsN (gi s x).natAbs : Int) + 1 else 0)) := by
   refine sumTo_congr n fun u hu => ?_
   by_cases hux : u = x
   ·subst hux
    have : V' u = true := (hV u hu).2 (.inr rfl)
    rw [hkeep u hu this]
    simp [this, hv, hr]
   ·by_cases hvu : V u = true
    ·have : V' u = true := (hV u hu).2 (.inl hvu)
     rw [hkeep u hu this]
     simp [this, hvu, hux]
    ·have : ¬ V' u = true := fun h1 => Or.elim ((hV u hu).1 h1) hvu hux
     simp [this, hvu, hux]
  rw [e1, sumTo_add, sumTo_single, if_pos hx]
theorem SInv.start {n : Nat} (pa : Nat → Nat) (r : Nat) {vals : List Int} {V : Nat → Bool} (hl : vals.length = n) (hV : ∀ u, u < n → V u = false) (hb : ∀ u, u < n → ((gi vals u).natAbs : Int) ≤ 1000000) :
 SInv n pa r (n * 1000000) vals vals V ∧ sentBy n r vals V = 0 := by
 refine ⟨⟨hl, fun v _ => ?_, ?_, fun u hu h => ?_⟩, ?_⟩
 ·rw [sumTo_zero n fun u hu => by simp [hV u hu]]; omega
 ·exact sumTo_le n fun u hu => by simp only [hV u hu, Bool.false_eq_true, if_false]; exact hb u hu
 ·rw [hV u hu] at h; cases h
 ·exact sumTo_zero n fun u hu => by simp [hV u hu]
theorem SInv.congr {n : Nat} {pa : Nat → Nat} {r : Nat} {M : Int} {vals s : List Int} {V V' : Nat → Bool} (h : SInv n pa r M vals s V) (hV : ∀ u, u < n → V' u = V u) : SInv n pa r M vals s V' ∧ sentBy n r s V' = sentBy n r s V := by
 refine ⟨⟨h.len, fun v hv => ?_, ?_, fun u hu hvu => h.bv u hu (by rw [← hV u hu]; exact hvu)⟩, ?_⟩
 ·rw [sumTo_congr n fun u hu => by rw [hV u hu]]; exact h.eq v hv
 ·rw [sumTo_congr n fun u hu => by rw [hV u hu]]; exact h.bd
 ·exact sumTo_congr n fun u hu => by rw [hV u hu]
theorem SInv.skip {n : Nat} {pa : Nat → Nat} {r : Nat} {M : Int} {vals s : List Int} {V V' : Nat → Bool} (h : SInv n pa r M vals s V) (hV : ∀ u, u < n → u ≠ r → V' u = V u) (hVr : V r = true → V' r = true) : SInv n pa r M vals s V' ∧ sentBy n r s V' = sentBy n r s V := by
 refine ⟨⟨h.len, fun v hv => ?_, ?_, fun u hu _ => h.abs hu⟩, ?_⟩
 ·rw [sumTo_congr (g := fun u => if V u = true ∧ u ≠ r ∧ pa u = v then gi s u else 0) n fun u hu => by
   by_cases hr : u = r
   ·simp [hr]
   ·rw [hV u hu hr]]
  exact h.eq v hv
 ·refine Int.le_trans ?_ h.bd
  have : ∀ m, m ≤ n → sumTo m (fun u => if V' u = true then 0 else ((gi s u).natAbs : Int)) ≤ sumTo m (fun u => if V u = true then 0 else ((gi s u).natAbs : Int)) := by
   intro m
   induction m with
   | zero => intro _; exact Int.le_refl _
   | succ m ih =>
    intro hm
    have h1 := ih (by omega)
    simp only [sumTo]
    by_cases hr : m = r
    ·subst hr
     by_cases h2 : V m = true
     ·rw [if_pos h2, if_pos (hVr h2)]; omega
     ·rw [if_neg h2]
      by_cases h3 : V' m = true
      ·rw [if_pos h3]; omega
      ·rw [if_neg h3]; omega
    ·rw [hV m (by omega) hr]; omega
  exact this n (Nat.le_refl _)
 ·exact sumTo_congr n fun u hu => by
   by_cases hr : u = r
   ·simp [hr]
   ·rw [hV u hu hr]
def Final (n : Nat) (pa : Nat → Nat) (r : Nat) (vals s : List Int) : Prop := s.length = n ∧ ∀ v, v < n → gi s v = gi vals v + sumTo n (fun u => if u ≠ r ∧ pa u = v then gi s u else 0)
def bitsAll (n r : Nat) (s : List Int) : Int := sumTo n (fun u => if u ≠ r then (bitsN (gi s u).natAbs : Int) + 1 else 0)
theorem SInv.final {n : Nat} {pa : Nat → Nat} {r : Nat} {M : Int} {vals s : List Int} {V : Nat → Bool} (h : SInv n pa r M vals s V) (hV : ∀ u, u < n → u ≠ r → V u = true) : Final n pa r vals s ∧ sentBy n r s V = bitsAll n r s := by
 refine ⟨⟨h.len, fun v hv => ?_⟩, ?_⟩
 ·rw [h.eq v hv]
  congr 1
  exact sumTo_congr n fun u hu => by
   by_cases hr : u = r
   ·simp [hr]
   ·simp [hV u hu hr, hr]
 ·exact sumTo_congr n fun u hu => by
   by_cases hr : u = r
   ·simp [hr]
   ·simp [hV u hu hr, hr]
theorem Final.unique {n : Nat} {pa : Nat → Nat} {r : Nat} {vals s s' : List Int} (ds : Nat → Int) (hd : ∀ u, u < n → u ≠ r → ds u = ds (pa u) + 1) (hb : ∀ u, u < n → ds u ≤ n)
 (h : Final n pa r vals s) (h' : Final n pa r vals s') : s = s' := by
 have key : ∀ k : Nat, ∀ v, v < n → (n : Int) < ds v + k → gi s v = gi s' v := by
  intro k
  induction k with
  | zero => intro v hv h1; have := hb v hv; omega
  | succ k ih =>
   intro v hv h1
   rw [h.2 v hv, h'.2 v hv]
   congr 1
   refine sumTo_congr n fun u hu => ?_
   by_cases hc : u ≠ r ∧ pa u = v
   ·rw [if_pos hc, if_pos hc]
    have := hd u hu hc.1
    rw [hc.2] at this
    exact ih u hu (by omega)
   ·rw [if_neg hc, if_neg hc]
 refine ints_ext' (h.1.trans h'.1.symm) fun j hj => ?_
 have hj' : j < n := by rw [← h.1]; exact hj
 have := hb j hj'
 exact key ((n : Int) - ds j + 1).toNat j hj' (by omega)
def IsMax (xs : List Int) (h : Int) : Prop := (∀ v, v < xs.length → gi xs v ≤ h) ∧ ∃ v, v < xs.length ∧ gi xs v = h
theorem IsMax.unique {xs : List Int} {h h' : Int} (a : IsMax xs h) (b : IsMax xs h') : h = h' := by
 obtain ⟨a1, v, hv, a2⟩ := a
 obtain ⟨b1, u, hu, b2⟩ := b
 have := a1 u hu
 have := b1 v hv
 omega
end
section
def nd (N : Net) (w j : Nat) : Nat := (gp (gl N.ends w) j).1.toNat
def bk (N : Net) (w j : Nat) : Nat := (gp (gl N.ends w) j).2.toNat
theorem sym_nd {N : Net} (h : Sym N.ends) {a i : Nat} (ha : a < N.ends.length) (hi : i < (gl N.ends a).length) :
 nd N a i < N.ends.length ∧ bk N a i < (gl N.ends (nd N a i)).length ∧ nd N (nd N a i) (bk N a i) = a ∧ bk N (nd N a i) (bk N a i) = i ∧ gp (gl N.ends a) i = (((nd N a i : Nat) : Int), ((bk N a i : Nat) : Int)) := by
 obtain ⟨b, j, h1, h2, h3, h4⟩ := h a i ha hi
 have e1 : gp (gl N.ends a) i = ((b : Int), (j : Int)) := h1
 have n1 : nd N a i = b := by unfold nd; rw [e1]; rfl
 have n2 : bk N a i = j := by unfold bk; rw [e1]; rfl
 have e2 : gp (gl N.ends b) j = ((a : Int), (i : Int)) := h4
 rw [n1, n2]
 exact ⟨h2, h3, by unfold nd; rw [e2]; rfl, by unfold bk; rw [e2]; rfl, e1⟩
structure IsDist (N : Net) (v : Nat) (out : List Int) : Prop where
 len : out.length = N.ends.length
 root : gi out v = 0
 zero : ∀ w, w < N.ends.length → gi out w = 0 → w = v
 low : ∀ w, w < N.ends.length → -1 ≤ gi out w
 back : ∀ w, w < N.ends.length → 0 < gi out w → ∃ j, j < (gl N.ends w).length ∧ gi out (nd N w j) = gi out w - 1
 step : ∀ w, w < N.ends.length → 0 ≤ gi out w → ∀ j, j < (gl N.ends w).length → 0 ≤ gi out (nd N w j) ∧ gi out (nd N w j) ≤ gi out w + 1
theorem IsDist.le {N : Net} {v : Nat} {x y : List Int} (hs : Sym N.ends) (hx : IsDist N v x) (hy : IsDist N v y) : ∀ (k : Nat) w, w < N.ends.length → gi x w = k → 0 ≤ gi y w ∧ gi y w ≤ k
 | 0, w, hw, h => by
  have := hx.zero w hw (by simpa using h)
  rw [this, hy.root]; simp
 | k + 1, w, hw, h => by
  obtain ⟨j, hj, h2⟩ := hx.back w hw (by omega)
  obtain ⟨h3, h4, h5, -⟩ := sym_nd hs hw hj
  have ih := IsDist.le hs hx hy k _ h3 (by omega)
  have := hy.step _ h3 ih.1 _ h4
  rw [h5] at this
  omega
theorem IsDist.unique {N : Net} {v : Nat} {x y : List Int} (hs : Sym N.ends) (hx : IsDist N v x) (hy : IsDist N v y) : x = y := by
 refine ints_ext' (hx.len.trans hy.len.symm) fun w hw => ?_
 rw [hx.len] at hw
 have h1 := hx.low w hw
 have h2 := hy.low w hw
 by_cases hx0 : 0 ≤ gi x w
 ·obtain ⟨k, hk⟩ := Int.eq_ofNat_of_zero_le hx0
  have h3 := IsDist.le hs hx hy k w hw hk
  obtain ⟨m, hm⟩ := Int.eq_ofNat_of_zero_le h3.1
  have h4 := IsDist.le hs hy hx m w hw hm
  omega
 ·by_cases hy0 : 0 ≤ gi y w
  ·obtain ⟨k, hk⟩ := Int.eq_ofNat_of_zero_le hy0
   have h3 := IsDist.le hs hy hx k w hw hk
   omega
  ·omega
noncomputable def dists (N : Net) (v : Nat) : List Int := by classical exact if h : ∃ out, IsDist N v out then h.choose else []
theorem IsDist.eq {N : Net} {v : Nat} {x : List Int} (hs : Sym N.ends) (h : IsDist N v x) : x = dists N v := by
 have hex : ∃ out, IsDist N v out := ⟨x, h⟩
 unfold dists
 rw [dif_pos hex]
 exact h.unique hs hex.choose_spec
structure BfsI (N : Net) (v : Nat) (out : List Int) (done q : List Nat) : Prop where
 len : out.length = N.ends.length
 root : gi out v = 0
 zero : ∀ w, w < N.ends.length → gi out w = 0 → w = v
 low : ∀ w, w < N.ends.length → -1 ≤ gi out w
 back : ∀ w, w < N.ends.length → 0 < gi out w → ∃ j, j < (gl N.ends w).length ∧ gi out (nd N w j) = gi out w - 1
 mem : ∀ w, w < N.ends.length → (0 ≤ gi out w ↔ w ∈ done ++ q)
 rng : ∀ w ∈ done ++ q, w < N.ends.length
 nodup : (done ++ q).Nodup
 sorted : (done ++ q).Pairwise fun a b => gi out a ≤ gi out b
 near : ∀ h t, q = h :: t → ∀ x ∈ q, gi out x ≤ gi out h + 1
 step : ∀ w ∈ done, ∀ j, j < (gl N.ends w).length → 0 ≤ gi out (nd N w j) ∧ gi out (nd N w j) ≤ gi out w + 1
 bnd : ∀ w, w < N.ends.length → gi out w ≤ done.length + 1
 hd : ∀ h t, q = h :: t → gi out h ≤ done.length
structure BfsJ (N : Net) (v : Nat) (out : List Int) (done : List Nat) (w : Nat) (q : List Nat) (i : Nat) : Prop where
 base : BfsI N v out done (w :: q)
 part : ∀ j, j < i → j < (gl N.ends w).length → 0 ≤ gi out (nd N w j) ∧ gi out (nd N w j) ≤ gi out w + 1
theorem BfsI.pop {N : Net} {v : Nat} {out : List Int} {done q : List Nat} {w : Nat} (h : BfsI N v out done (w :: q)) : BfsJ N v out done w q 0 := ⟨h, fun j hj => by omega⟩
theorem BfsI.len_le {N : Net} {v : Nat} {out : List Int} {done q : List Nat} (h : BfsI N v out done q) : done.length + q.length ≤ N.ends.length := by
 have hs : (done ++ q) ⊆ List.range N.ends.length := fun x hx => List.mem_range.2 (h.rng x hx)
 have := h.nodup.length_le_of_subset hs
 simpa using this
theorem BfsI.top {N : Net} {v : Nat} {out : List Int} {done q : List Nat} {w : Nat} (h : BfsI N v out done (w :: q)) {x : Nat} (hx : x < N.ends.length) (h0 : 0 ≤ gi out x) : gi out x ≤ gi out w + 1 := by
 have hm := (h.mem x hx).1 h0
 rcases List.mem_append.1 hm with hm | hm
 ·have := List.pairwise_append.1 h.sorted
  have := this.2.2 x hm w (by simp)
  omega
 ·exact h.near w q rfl x hm
theorem BfsI.at0 {N : Net} {v : Nat} {out : List Int} {done q : List Nat} {w : Nat} (h : BfsI N v out done (w :: q)) : w < N.ends.length ∧ 0 ≤ gi out w := by
 have hw := h.rng w (by simp)
 exact ⟨hw, (h.mem w hw).2 (by simp)⟩
theorem BfsJ.skip {N : Net} {v : Nat} {out : List Int} {done q : List Nat} {w i : Nat} (hs : Sym N.ends) (h : BfsJ N v out done w q i) (hi : i < (gl N.ends w).length) (h0 : 0 ≤ gi out (nd N w i)) : BfsJ N v out done w q (i + 1) := by
 obtain ⟨hw, -⟩ := h.base.at0
 have hn := (sym_nd hs hw hi).1
 refine ⟨h.base, fun j hj hjl => ?_⟩
 rcases Nat.lt_or_ge j i with hj' | hj'
 ·exact h.part j hj' hjl
 ·obtain rfl : j = i := by omega
  exact ⟨h0, h.base.top hn h0⟩
theorem BfsJ.push {N : Net} {v : Nat} {out : List Int} {done q : List Nat} {w i : Nat} (hs : Sym N.ends) (h : BfsJ N v out done w q i) (hi : i < (gl N.ends w).length) (h0 : gi out (nd N w i) < 0) :
 BfsJ N v (out.set (nd N w i) (gi out w + 1)) done w (q ++ [nd N w i]) (i + 1) := by
 obtain ⟨hw, hw0⟩ := h.base.at0
 obtain ⟨hx, hb, hnb, -⟩ := sym_nd hs hw hi
 generalize hxe : nd N w i = x at *
 have hxl : x < out.length := by rw [h.base.len]; exact hx
 have hxm : x ∉ done ++ w :: q := fun hm => by have := (h.base.mem x hx).2 hm; omega
 have hg : ∀ u, gi (out.set x (gi out w + 1)) u = if u = x then gi out w + 1 else gi out u := fun u => gi_set hxl
 have hgo : ∀ u, u ∈ done ++ w :: q → gi (out.set x (gi out w + 1)) u = gi out u := fun u hu => by rw [hg, if_neg fun e => hxm (by rw [← e]; exact hu)]
 have hgp : ∀ u, 0 ≤ gi out u → gi (out.set x (gi out w + 1)) u = gi out u := fun u hu => by rw [hg, if_neg fun e => by rw [e] at hu; omega]
 have hwg := hgo w (by simp)
 have happ : done ++ w :: (q ++ [x]) = (done ++ w :: q) ++ [x] := by simp
 refine ⟨⟨by rw [List.length_set]; exact h.base.len, ?_, fun u hu => ?_, fun u hu => ?_, fun u hu => ?_, fun u hu => ?_, fun u hu => ?_, ?_, ?_, ?_, fun u hu j hj => ?_, fun u hu => ?_, fun g t e => ?_⟩, fun j hj hjl => ?_⟩
 ·rw [hgp v (by rw [h.base.root]; exact Int.le_refl 0)]; exact h.base.root
 ·rw [hg]
  split
  ·intro e; omega
  ·exact h.base.zero u hu
 ·rw [hg]
  split
  ·omega
  ·exact h.base.low u hu
 ·rw [hg]
  split
  ·rename_i e
   subst e
   intro _
   exact ⟨_, hb, by rw [hnb, hwg]; omega⟩
  ·intro h1
   obtain ⟨j, hj, h2⟩ := h.base.back u hu h1
   exact ⟨j, hj, by rw [hgp _ (by omega)]; exact h2⟩
 ·rw [happ, List.mem_append, List.mem_singleton, hg]
  split
  ·rename_i e; subst e; exact ⟨fun _ => .inr rfl, fun _ => by omega⟩
  ·rename_i e; rw [h.base.mem u hu]; exact ⟨.inl, fun hh => hh.resolve_right e⟩
 ·rw [happ] at hu
  rcases List.mem_append.1 hu with hu | hu
  ·exact h.base.rng u hu
  ·rw [List.mem_singleton.1 hu]; exact hx
 ·rw [happ]
  refine List.nodup_append.2 ⟨h.base.nodup, by simp, fun a ha b hb e => ?_⟩
  rw [List.mem_singleton.1 hb] at e
  exact hxm (by rw [← e]; exact ha)
 ·rw [happ]
  refine List.pairwise_append.2 ⟨h.base.sorted.imp_of_mem fun {a b} ha hb hab => by rw [hgo a ha, hgo b hb]; exact hab, by simp, fun a ha b hb => ?_⟩
  rw [List.mem_singleton.1 hb, hgo a ha, hg x, if_pos rfl]
  have hal := h.base.rng a ha
  exact h.base.top hal ((h.base.mem a hal).2 ha)
 ·intro h' t e u hu
  cases e
  rw [hwg]
  simp only [List.mem_cons, List.mem_append, List.not_mem_nil, or_false] at hu
  rcases hu with rfl | hu | rfl
  ·rw [hwg]; omega
  ·rw [hgo u (by simp [hu])]; exact h.base.near w q rfl u (by simp [hu])
  ·rw [hg u, if_pos rfl]; exact Int.le_refl _
 ·have h1 := h.base.step u hu j hj
  rw [hgp _ h1.1, hgo u (by simp [hu])]
  exact h1
 ·have h1 := h.base.hd w q rfl
  rw [hg]
  split
  ·omega
  ·exact h.base.bnd u hu
 ·cases e
  rw [hwg]; exact h.base.hd w q rfl
 ·rcases Nat.lt_or_ge j i with hj' | hj'
  ·have h1 := h.part j hj' hjl
   rw [hgp _ h1.1, hwg]
   exact h1
  ·obtain rfl : j = i := by omega
   rw [hxe, hg x, if_pos rfl, hwg]
   omega
theorem BfsJ.done {N : Net} {v : Nat} {out : List Int} {done q : List Nat} {w : Nat} (h : BfsJ N v out done w q (gl N.ends w).length) : BfsI N v out (done ++ [w]) q := by
 have happ : done ++ w :: q = (done ++ [w]) ++ q := by simp
 have hb := h.base
 refine ⟨hb.len, hb.root, hb.zero, hb.low, hb.back, ?_, ?_, ?_, ?_, fun g t e x hx => ?_, fun u hu j hj => ?_, fun u hu => ?_, fun g t e => ?_⟩
 ·rw [← happ]; exact hb.mem
 ·rw [← happ]; exact hb.rng
 ·rw [← happ]; exact hb.nodup
 ·rw [← happ]; exact hb.sorted
 ·subst e
  have h1 := hb.near w _ rfl x (by simp [hx])
  have h2 := (List.pairwise_append.1 hb.sorted).2.1
  rw [List.pairwise_cons] at h2
  have := h2.1 g (by simp)
  omega
 ·rcases List.mem_append.1 hu with hu | hu
  ·exact hb.step u hu j hj
  ·rw [List.mem_singleton.1 hu] at hj ⊢
   exact h.part j hj hj
 ·have := hb.bnd u hu
  rw [List.length_append, List.length_singleton]; omega
 ·subst e
  have := hb.bnd g (hb.rng g (by simp))
  rw [List.length_append, List.length_singleton]; omega
theorem BfsI.dist {N : Net} {v : Nat} {out : List Int} {done : List Nat} (h : BfsI N v out done []) : IsDist N v out :=
 ⟨h.len, h.root, h.zero, h.low, h.back, fun w hw h0 j hj => h.step w (by simpa using (h.mem w hw).1 h0) j hj⟩
theorem BfsI.start {N : Net} {v : Nat} (hv : v < N.ends.length) : BfsI N v ((List.replicate N.ends.length (-1)).set v 0) [] [v] := by
 have hg : ∀ u, u < N.ends.length → gi ((List.replicate N.ends.length (-1)).set v 0) u = if u = v then 0 else -1 := fun u hu => by
  rw [gi_set (by simpa using hv)]
  split
  ·rfl
  ·simp [gi, hu]
 refine ⟨by simp, by rw [hg v hv, if_pos rfl], fun w hw h => ?_, fun w hw => ?_, fun w hw h => ?_, fun w hw => ?_, fun w hw => ?_, by simp, by simp, fun h t e x hx => ?_, fun w hw => by simp at hw, fun w hw => ?_, fun h t e => ?_⟩
 ·rw [hg w hw] at h; split at h
  ·assumption
  ·omega
 ·rw [hg w hw]; split <;> omega
 ·rw [hg w hw] at h; split at h <;> omega
 ·rw [hg w hw]
  split
  ·rename_i e; simp [e]
  ·rename_i e; simp [e]
 ·simp at hw; rw [hw]; exact hv
 ·simp at e hx; rw [hx, e.1]; omega
 ·rw [hg w hw]; split <;> simp
 ·cases e; rw [hg v hv, if_pos rfl]; simp
end
section
def swp (d : List Int) (i j : Nat) : List Int := (d.set i (gi d j)).set j (gi d i)
theorem swp_length (d : List Int) (i j : Nat) : (swp d i j).length = d.length := by simp [swp]
theorem swp_get {d : List Int} {i j : Nat} (hi : i < d.length) (hj : j < d.length) (x : Nat) : gi (swp d i j) x = if x = j then gi d i else if x = i then gi d j else gi d x := by
 unfold swp
 rw [gi_set (by simpa using hj), gi_set hi]
theorem swp_perm {d : List Int} {i j : Nat} (hi : i < d.length) (hj : j < d.length) : (swp d i j).Perm d := by
 unfold swp
 rw [gi_lt hi, gi_lt hj]
 exact List.set_set_perm hi hj
def swapR (d : List Int) (a b : Nat) : Nat → List Int
 | 0 => d
 | k + 1 => swp (swapR d a b k) (a + k) (b + k)
theorem swapR_length (d : List Int) (a b : Nat) : ∀ k, (swapR d a b k).length = d.length
 | 0 => rfl
 | k + 1 => by rw [swapR, swp_length, swapR_length d a b k]
theorem swapR_perm {d : List Int} {a b : Nat} : ∀ k, a + k ≤ d.length → b + k ≤ d.length → (swapR d a b k).Perm d
 | 0, _, _ => List.Perm.refl _
 | k + 1, h1, h2 => (swp_perm (by rw [swapR_length]; omega) (by rw [swapR_length]; omega)).trans (swapR_perm k (by omega) (by omega))
theorem swapR_get {d : List Int} {a b : Nat} : ∀ k, a + k ≤ b → b + k ≤ d.length → ∀ x, gi (swapR d a b k) x = if a ≤ x ∧ x < a + k then gi d (x - a + b) else if b ≤ x ∧ x < b + k then gi d (x - b + a) else gi d x
 | 0, _, _, x => by rw [if_neg (by omega), if_neg (by omega)]; rfl
 | k + 1, h1, h2, x => by
  have ih := swapR_get (d := d) (a := a) (b := b) k (by omega) (by omega)
  rw [swapR, swp_get (by rw [swapR_length]; omega) (by rw [swapR_length]; omega)]
  by_cases e1 : x = b + k
  ·rw [if_pos e1, ih, if_neg (by omega), if_neg (by omega), if_neg (by omega), if_pos (by omega)]
   congr 1; omega
  ·rw [if_neg e1]
   by_cases e2 : x = a + k
   ·rw [if_pos e2, ih, if_neg (by omega), if_neg (by omega), if_pos (by omega)]
    congr 1; omega
   ·rw [if_neg e2, ih]
    by_cases e3 : a ≤ x ∧ x < a + k
    ·rw [if_pos e3, if_pos (by omega)]
    ·rw [if_neg e3]
     by_cases e4 : b ≤ x ∧ x < b + k
     ·rw [if_pos e4, if_neg (by omega), if_pos (by omega)]
     ·rw [if_neg e4, if_neg (by omega), if_neg (by omega)]
def rotAt (d : List Int) (a m b x : Nat) : Int := if a ≤ x ∧ x < a + (b - m) then gi d (x + (m - a)) else if a + (b - m) ≤ x ∧ x < b then gi d (x - (b - m)) else gi d x
theorem rotAt_left {d : List Int} {m i j : Nat} (him : i ≤ m) (hj : 0 < j) (hij : j < i) (hd : m + j ≤ d.length) (x : Nat) :
 rotAt (swapR d (m - i) m j) (m - (i - j)) m (m + j) x = rotAt d (m - i) m (m + j) x := by
 unfold rotAt
 have hg := swapR_get (d := d) (a := m - i) (b := m) j (by omega) (by omega)
 by_cases e1 : m - i ≤ x ∧ x < m - i + j
 ·rw [if_neg (by omega), if_neg (by omega), if_pos (by omega), hg, if_pos (by omega)]
  congr 1; omega
 ·by_cases e2 : m - i + j ≤ x ∧ x < m - i + j + j
  ·rw [if_pos (by omega), if_neg (by omega), if_pos (by omega), hg]
   rw [if_neg (by omega), if_pos (by omega)]
   congr 1; omega
  ·by_cases e3 : m - i + j + j ≤ x ∧ x < m + j
   ·rw [if_neg (by omega), if_pos (by omega), if_neg (by omega), if_pos (by omega), hg, if_neg (by omega), if_neg (by omega)]
   ·rw [if_neg (by omega), if_neg (by omega), if_neg (by omega), if_neg (by omega), hg, if_neg (by omega), if_neg (by omega)]
theorem rotAt_right {d : List Int} {m i j : Nat} (him : i ≤ m) (hi : 0 < i) (hij : i < j) (hd : m + j ≤ d.length) (x : Nat) :
 rotAt (swapR d (m - i) (m + j - i) i) (m - i) m (m + (j - i)) x = rotAt d (m - i) m (m + j) x := by
 unfold rotAt
 have hg := swapR_get (d := d) (a := m - i) (b := m + j - i) i (by omega) (by omega)
 by_cases e1 : m - i ≤ x ∧ x < m - i + (j - i)
 ·rw [if_pos (by omega), if_pos (by omega), hg, if_neg (by omega), if_neg (by omega)]
 ·by_cases e2 : m - i + (j - i) ≤ x ∧ x < m + (j - i)
  ·rw [if_neg (by omega), if_pos (by omega), if_pos (by omega), hg, if_pos (by omega)]
   congr 1; omega
  ·by_cases e3 : m + (j - i) ≤ x ∧ x < m + j
   ·rw [if_neg (by omega), if_neg (by omega), if_neg (by omega), if_pos (by omega), hg, if_neg (by omega), if_pos (by omega)]
    congr 1; omega
   ·rw [if_neg (by omega), if_neg (by omega), if_neg (by omega), if_neg (by omega), hg, if_neg (by omega), if_neg (by omega)]
theorem rotAt_mid {d : List Int} {m i : Nat} (him : i ≤ m) (hd : m + i ≤ d.length) (x : Nat) : gi (swapR d (m - i) m i) x = rotAt d (m - i) m (m + i) x := by
 unfold rotAt
 rw [swapR_get i (by omega) (by omega)]
 by_cases e1 : m - i ≤ x ∧ x < m - i + i
 ·rw [if_pos e1, if_pos (by omega)]; congr 1; omega
 ·rw [if_neg e1]
  by_cases e2 : m ≤ x ∧ x < m + i
  ·rw [if_pos e2, if_neg (by omega), if_pos (by omega)]; congr 1; omega
  ·rw [if_neg e2, if_neg (by omega), if_neg (by omega)]
def SortedOn (κ : Int → Int) (d : List Int) (a b : Nat) : Prop := ∀ i j, a ≤ i → i < j → j < b → κ (gi d i) ≤ κ (gi d j)
def SameOut (d d' : List Int) (a b : Nat) : Prop := d'.Perm d ∧ ∀ x, ¬ (a ≤ x ∧ x < b) → gi d' x = gi d x
theorem SameOut.refl (d : List Int) (a b : Nat) : SameOut d d a b := ⟨List.Perm.refl _, fun _ _ => rfl⟩
theorem SameOut.trans {d d' d'' : List Int} {a b : Nat} (h : SameOut d d' a b) (k : SameOut d' d'' a b) : SameOut d d'' a b := ⟨k.1.trans h.1, fun x hx => (k.2 x hx).trans (h.2 x hx)⟩
theorem SameOut.wider {d d' : List Int} {a b a' b' : Nat} (h : SameOut d d' a b) (h1 : a' ≤ a) (h2 : b ≤ b') : SameOut d d' a' b' := ⟨h.1, fun x hx => h.2 x (by omega)⟩
theorem SameOut.len {d d' : List Int} {a b : Nat} (h : SameOut d d' a b) : d'.length = d.length := h.1.length_eq
theorem SameOut.mem {d d' : List Int} {a b : Nat} (h : SameOut d d' a b) (hab : a ≤ b) (hb : b ≤ d.length) {x : Nat} (hx1 : a ≤ x) (hx2 : x < b) : ∃ y, a ≤ y ∧ y < b ∧ gi d' x = gi d y := by
 have hl := h.len
 have split : ∀ e : List Int, e.length = d.length → e = e.take a ++ ((e.drop a).take (b - a) ++ e.drop b) := by
  intro e he
  have h1 : e.drop b = (e.drop a).drop (b - a) := by rw [List.drop_drop]; congr 1; omega
  rw [h1, List.take_append_drop, List.take_append_drop]
 have e1 : d'.take a = d.take a := by
  apply List.ext_getElem (by simp; omega)
  intro i h1 h2
  simp only [List.getElem_take]
  have := h.2 i (by simp at h1; omega)
  rwa [gi_lt (by simp at h1; omega), gi_lt (by simp at h2; omega)] at this
 have e2 : d'.drop b = d.drop b := by
  apply List.ext_getElem (by simp; omega)
  intro i h1 h2
  simp only [List.getElem_drop]
  have := h.2 (b + i) (by omega)
  rwa [gi_lt (by simp at h1; omega), gi_lt (by simp at h2; omega)] at this
 have hp := h.1
 rw [split d' hl, split d rfl, e1, e2] at hp
 have hp2 := (List.perm_append_right_iff _).1 ((List.perm_append_left_iff _).1 hp)
 have hm : gi d' x ∈ (d'.drop a).take (b - a) := by
  have hlt : x - a < ((d'.drop a).take (b - a)).length := by simp; omega
  have : ((d'.drop a).take (b - a))[x - a] = gi d' x := by
   rw [gi_lt (by omega)]
   simp only [List.getElem_take, List.getElem_drop]
   congr 1; omega
  rw [← this]
  exact List.getElem_mem hlt
 obtain ⟨k, hk, e⟩ := List.getElem_of_mem (hp2.mem_iff.1 hm)
 have hk' : k < b - a := by simp at hk; omega
 refine ⟨a + k, by omega, by omega, ?_⟩
 rw [← e, gi_lt (by omega)]
 simp only [List.getElem_take, List.getElem_drop]
end
section
def bubR (d : List Int) (a : Nat) : Nat → List Int
 | 0 => d
 | t + 1 => swp (bubR d a t) (a + t) (a + t + 1)
theorem bubR_length (d : List Int) (a : Nat) : ∀ t, (bubR d a t).length = d.length
 | 0 => rfl
 | t + 1 => by rw [bubR, swp_length, bubR_length d a t]
theorem bubR_perm {d : List Int} {a : Nat} : ∀ t, a + t < d.length → (bubR d a t).Perm d
 | 0, _ => List.Perm.refl _
 | t + 1, h => (swp_perm (by rw [bubR_length]; omega) (by rw [bubR_length]; omega)).trans (bubR_perm t (by omega))
theorem bubR_get {d : List Int} {a : Nat} : ∀ t, a + t < d.length → ∀ x, gi (bubR d a t) x = if a ≤ x ∧ x < a + t then gi d (x + 1) else if x = a + t then gi d a else gi d x
 | 0, _, x => by
  rw [if_neg (by omega)]
  by_cases e : x = a + 0
  ·rw [if_pos e, e]; rfl
  ·rw [if_neg e]; rfl
 | t + 1, h, x => by
  have ih := bubR_get (d := d) (a := a) t (by omega)
  rw [bubR, swp_get (by rw [bubR_length]; omega) (by rw [bubR_length]; omega)]
  by_cases e1 : x = a + t + 1
  ·rw [if_pos e1, ih, if_neg (by omega), if_pos rfl, if_neg (by omega), if_pos (by omega)]
  ·rw [if_neg e1]
   by_cases e2 : x = a + t
   ·rw [if_pos e2, ih, if_neg (by omega), if_neg (by omega), if_pos (by omega)]
    congr 1; omega
   ·rw [if_neg e2, ih]
    by_cases e3 : a ≤ x ∧ x < a + t
    ·rw [if_pos e3, if_pos (by omega)]
    ·rw [if_neg e3, if_neg e2, if_neg (by omega), if_neg (by omega)]
def bubL (d : List Int) (m : Nat) : Nat → List Int
 | 0 => d
 | t + 1 => swp (bubL d m t) (m - t) (m - t - 1)
theorem bubL_length (d : List Int) (m : Nat) : ∀ t, (bubL d m t).length = d.length
 | 0 => rfl
 | t + 1 => by rw [bubL, swp_length, bubL_length d m t]
theorem bubL_perm {d : List Int} {m : Nat} (hm : m < d.length) : ∀ t, t ≤ m → (bubL d m t).Perm d
 | 0, _ => List.Perm.refl _
 | t + 1, h => (swp_perm (by rw [bubL_length]; omega) (by rw [bubL_length]; omega)).trans (bubL_perm hm t (by omega))
theorem bubL_get {d : List Int} {m : Nat} (hm : m < d.length) : ∀ t, t ≤ m → ∀ x, gi (bubL d m t) x = if m - t < x ∧ x ≤ m then gi d (x - 1) else if x = m - t then gi d m else gi d x
 | 0, _, x => by
  rw [if_neg (by omega)]
  by_cases e : x = m - 0
  ·rw [if_pos e, e]; rfl
  ·rw [if_neg e]; rfl
 | t + 1, h, x => by
  have ih := bubL_get (d := d) hm t (by omega)
  rw [bubL, swp_get (by rw [bubL_length]; omega) (by rw [bubL_length]; omega)]
  by_cases e1 : x = m - t - 1
  ·rw [if_pos e1, ih, if_neg (by omega), if_pos rfl, if_neg (by omega), if_pos (by omega)]
  ·rw [if_neg e1]
   by_cases e2 : x = m - t
   ·rw [if_pos e2, ih, if_neg (by omega), if_neg (by omega), if_pos (by omega)]
    congr 1; omega
   ·rw [if_neg e2, ih]
    by_cases e3 : m - t < x ∧ x ≤ m
    ·rw [if_pos e3, if_pos (by omega)]
    ·rw [if_neg e3, if_neg e2, if_neg (by omega), if_neg (by omega)]
theorem merge_left {κ : Int → Int} {d : List Int} {a b i : Nat} (hb : b ≤ d.length) (h1 : a < i) (h2 : i ≤ b) (hs : SortedOn κ d (a + 1) b)
 (hlo : ∀ x, a + 1 ≤ x → x < i → κ (gi d x) ≤ κ (gi d a)) (hhi : ∀ x, i ≤ x → x < b → κ (gi d a) ≤ κ (gi d x)) :
 SameOut d (bubR d a (i - 1 - a)) a b ∧ SortedOn κ (bubR d a (i - 1 - a)) a b := by
 have hg := bubR_get (d := d) (a := a) (i - 1 - a) (by omega)
 have ht : a + (i - 1 - a) = i - 1 := by omega
 rw [ht] at hg
 refine ⟨⟨bubR_perm _ (by omega), fun x hx => ?_⟩, fun x y hx hxy hy => ?_⟩
 ·rw [hg, if_neg (by omega), if_neg (by omega)]
 ·rw [hg, hg]
  by_cases e1 : a ≤ x ∧ x < i - 1
  ·rw [if_pos e1]
   by_cases e2 : a ≤ y ∧ y < i - 1
   ·rw [if_pos e2]; exact hs _ _ (by omega) (by omega) (by omega)
   ·rw [if_neg e2]
    by_cases e3 : y = i - 1
    ·rw [if_pos e3]; exact hlo _ (by omega) (by omega)
    ·rw [if_neg e3]; exact hs _ _ (by omega) (by omega) (by omega)
  ·rw [if_neg e1]
   by_cases e3 : x = i - 1
   ·rw [if_pos e3, if_neg (by omega), if_neg (by omega)]; exact hhi _ (by omega) (by omega)
   ·rw [if_neg e3, if_neg (by omega), if_neg (by omega)]; exact hs _ _ (by omega) (by omega) (by omega)
theorem merge_right {κ : Int → Int} {d : List Int} {a m i : Nat} (hm : m < d.length) (h1 : a ≤ i) (h2 : i ≤ m) (hs : SortedOn κ d a m)
 (hlo : ∀ x, a ≤ x → x < i → κ (gi d x) ≤ κ (gi d m)) (hhi : ∀ x, i ≤ x → x < m → κ (gi d m) ≤ κ (gi d x)) :
 SameOut d (bubL d m (m - i)) a (m + 1) ∧ SortedOn κ (bubL d m (m - i)) a (m + 1) := by
 have hg := bubL_get (d := d) hm (m - i) (by omega)
 have ht : m - (m - i) = i := by omega
 rw [ht] at hg
 refine ⟨⟨bubL_perm hm _ (by omega), fun x hx => ?_⟩, fun x y hx hxy hy => ?_⟩
 ·rw [hg, if_neg (by omega), if_neg (by omega)]
 ·rw [hg, hg]
  by_cases e1 : i < x ∧ x ≤ m
  ·rw [if_pos e1, if_pos (by omega)]; exact hs _ _ (by omega) (by omega) (by omega)
  ·rw [if_neg e1]
   by_cases e3 : x = i
   ·rw [if_pos e3]
    by_cases e2 : i < y ∧ y ≤ m
    ·rw [if_pos e2]; exact hhi _ (by omega) (by omega)
    ·omega
   ·rw [if_neg e3]
    by_cases e2 : i < y ∧ y ≤ m
    ·rw [if_pos e2]; exact hs _ _ (by omega) (by omega) (by omega)
    ·rw [if_neg e2]
     by_cases e4 : y = i
     ·rw [if_pos e4]; exact hlo _ (by omega) (by omega)
     ·rw [if_neg e4]; exact hs _ _ (by omega) (by omega) (by omega)
theorem merge_split {κ : Int → Int} {d d1 : List Int} {a m b mid start en : Nat} (hmid : mid + m = start + en) (h1 : a ≤ start) (h2 : start ≤ m) (h3 : m ≤ en) (h4 : en ≤ b)
 (hs1 : SortedOn κ d a m) (hs2 : SortedOn κ d m b)
 (hA : a < start → en < b → κ (gi d (start - 1)) ≤ κ (gi d en)) (hB : m < en → start < m → κ (gi d (en - 1)) ≤ κ (gi d start))
 (hg : ∀ x, gi d1 x = rotAt d start m en x) :
 SortedOn κ d1 a start ∧ SortedOn κ d1 start mid ∧ SortedOn κ d1 mid en ∧ SortedOn κ d1 en b ∧ ∀ x y, a ≤ x → x < mid → mid ≤ y → y < b → κ (gi d1 x) ≤ κ (gi d1 y) := by
 have g1 : ∀ x, x < start → gi d1 x = gi d x := fun x hx => by rw [hg]; unfold rotAt; rw [if_neg (by omega), if_neg (by omega)]
 have g2 : ∀ x, start ≤ x → x < mid → gi d1 x = gi d (x + (m - start)) := fun x hx hx2 => by rw [hg]; unfold rotAt; rw [if_pos (by omega)]
 have g3 : ∀ x, mid ≤ x → x < en → gi d1 x = gi d (x - (en - m)) := fun x hx hx2 => by rw [hg]; unfold rotAt; rw [if_neg (by omega), if_pos (by omega)]
 have g4 : ∀ x, en ≤ x → gi d1 x = gi d x := fun x hx => by rw [hg]; unfold rotAt; rw [if_neg (by omega), if_neg (by omega)]
 have le1 : ∀ {x y}, a ≤ x → x ≤ y → y < m → κ (gi d x) ≤ κ (gi d y) := fun {x y} hx hxy hy => by
  by_cases e : x = y
  ·rw [e]; exact Int.le_refl _
  ·exact hs1 x y hx (by omega) hy
 have le2 : ∀ {x y}, m ≤ x → x ≤ y → y < b → κ (gi d x) ≤ κ (gi d y) := fun {x y} hx hxy hy => by
  by_cases e : x = y
  ·rw [e]; exact Int.le_refl _
  ·exact hs2 x y hx (by omega) hy
 refine ⟨fun x y hx hxy hy => ?_, fun x y hx hxy hy => ?_, fun x y hx hxy hy => ?_, fun x y hx hxy hy => ?_, fun x y hx hx2 hy hy2 => ?_⟩
 ·rw [g1 x (by omega), g1 y (by omega)]; exact le1 hx (by omega) (by omega)
 ·rw [g2 x (by omega) (by omega), g2 y (by omega) (by omega)]; exact le2 (by omega) (by omega) (by omega)
 ·rw [g3 x (by omega) (by omega), g3 y (by omega) (by omega)]; exact le1 (by omega) (by omega) (by omega)
 ·rw [g4 x (by omega), g4 y (by omega)]; exact le2 (by omega) (by omega) (by omega)
 ·by_cases e1 : x < start
  ·rw [g1 x e1]
   by_cases e2 : y < en
   ·rw [g3 y hy e2]; exact le1 (by omega) (by omega) (by omega)
   ·rw [g4 y (by omega)]
    have a1 := le1 (x := x) (y := start - 1) hx (by omega) (by omega)
    have a2 := hA (by omega) (by omega)
    have a3 := le2 (x := en) (y := y) (by omega) (by omega) hy2
    omega
  ·rw [g2 x (by omega) hx2]
   by_cases e2 : y < en
   ·rw [g3 y hy e2]
    have a1 := le2 (x := x + (m - start)) (y := en - 1) (by omega) (by omega) (by omega)
    have a2 := hB (by omega) (by omega)
    have a3 := le1 (x := start) (y := y - (en - m)) (by omega) (by omega) (by omega)
    omega
   ·rw [g4 y (by omega)]; exact le2 (by omega) (by omega) (by omega)
theorem merge_join {κ : Int → Int} {d1 d2 d3 : List Int} {a mid b : Nat} (hb : b ≤ d1.length) (ham : a ≤ mid) (hmb : mid ≤ b) (hlt : ∀ x y, a ≤ x → x < mid → mid ≤ y → y < b → κ (gi d1 x) ≤ κ (gi d1 y))
 (h2 : SameOut d1 d2 a mid) (hs2 : SortedOn κ d2 a mid) (h3 : SameOut d2 d3 mid b) (hs3 : SortedOn κ d3 mid b) : SortedOn κ d3 a b := by
 intro x y hx hxy hy
 by_cases e1 : y < mid
 ·rw [h3.2 x (by omega), h3.2 y (by omega)]; exact hs2 x y hx hxy e1
 ·by_cases e2 : mid ≤ x
  ·exact hs3 x y e2 hxy hy
  ·rw [h3.2 x (by omega)]
   obtain ⟨x', hx1, hx2, ex⟩ := h2.mem ham (by omega) hx (by omega)
   obtain ⟨y', hy1, hy2, ey⟩ := h3.mem hmb (by rw [h2.len]; exact hb) (by omega) hy
   rw [ex, ey, h2.2 y' (by omega)]
   exact hlt x' y' hx1 hx2 hy1 hy2
end
section
def Runs (κ : Int → Int) (d : List Int) (bs lo hi : Nat) : Prop := ∀ x y, lo ≤ x → x < y → y < hi → x / bs = y / bs → κ (gi d x) ≤ κ (gi d y)
theorem div_of_mul {bs q x : Nat} (h1 : q * bs ≤ x) (h2 : x < q * bs + bs) : x / bs = q := by
 apply Nat.div_eq_of_lt_le
 ·exact h1
 ·rw [Nat.add_mul, Nat.one_mul]; exact h2
theorem SortedOn.sub {κ : Int → Int} {d : List Int} {a b a' b' : Nat} (h : SortedOn κ d a b) (h1 : a ≤ a') (h2 : b' ≤ b) : SortedOn κ d a' b' := fun x y hx hxy hy => h x y (by omega) hxy (by omega)
theorem SortedOn.same {κ : Int → Int} {d d' : List Int} {a b lo hi : Nat} (h : SortedOn κ d lo hi) (hs : SameOut d d' a b) (hd : hi ≤ a ∨ b ≤ lo) : SortedOn κ d' lo hi := fun x y hx hxy hy => by
 rw [hs.2 x (by omega), hs.2 y (by omega)]; exact h x y hx hxy hy
theorem SortedOn.short {κ : Int → Int} {d : List Int} {a b : Nat} (h : b ≤ a + 1) : SortedOn κ d a b := fun x y hx hxy hy => absurd hy (by omega)
theorem Runs.same {κ : Int → Int} {d d' : List Int} {bs a b lo hi : Nat} (h : Runs κ d bs lo hi) (hs : SameOut d d' a b) (hd : hi ≤ a ∨ b ≤ lo) : Runs κ d' bs lo hi := fun x y hx hxy hy he => by
 rw [hs.2 x (by omega), hs.2 y (by omega)]; exact h x y hx hxy hy he
theorem Runs.sub {κ : Int → Int} {d : List Int} {bs a b a' b' : Nat} (h : Runs κ d bs a b) (h1 : a ≤ a') (h2 : b' ≤ b) : Runs κ d bs a' b' := fun x y hx hxy hy => h x y (by omega) hxy (by omega)
theorem Runs.more {κ : Int → Int} {d : List Int} {bs q a hi : Nat} (ha : a = q * bs) (h : Runs κ d bs 0 a) (hs : SortedOn κ d a hi) : Runs κ d bs 0 hi := fun x y hx hxy hy he => by
 by_cases e1 : y < a
 ·exact h x y hx hxy e1 he
 ·by_cases e2 : a ≤ x
  ·exact hs x y e2 hxy hy
  ·exfalso
   have hbs : 0 < bs := by
    rcases Nat.eq_zero_or_pos bs with h0 | h0
    ·subst h0; simp at ha; omega
    ·exact h0
   have h1 : x / bs < q := by rw [Nat.div_lt_iff_lt_mul hbs]; omega
   have h2 : q ≤ y / bs := by rw [Nat.le_div_iff_mul_le hbs]; omega
   omega
theorem Runs.at_ {κ : Int → Int} {d : List Int} {bs q a lo hi c : Nat} (ha : a = q * bs) (h : Runs κ d bs lo hi) (hlo : lo ≤ a) (hc : c ≤ hi) (hb : c ≤ a + bs) : SortedOn κ d a c := fun x y hx hxy hy =>
 h x y (by omega) hxy (by omega) (by rw [div_of_mul (q := q) (by omega) (by omega), div_of_mul (q := q) (by omega) (by omega)])
theorem Runs.all {κ : Int → Int} {d : List Int} {bs n : Nat} (h : Runs κ d bs 0 n) (hn : n ≤ bs) : SortedOn κ d 0 n := fun x y hx hxy hy =>
 h x y hx hxy hy (by rw [Nat.div_eq_of_lt (by omega), Nat.div_eq_of_lt (by omega)])
end
section
def fstI (b : Nat) (P : Nat → Bool) : Int := match (List.range b).find? P with
 | some j => (j : Int)
 | none => -1
theorem fstI_some {b : Nat} {P : Nat → Bool} {m : Nat} (hm : m < b) (h : P m = true) (hl : ∀ j, j < m → P j = false) : fstI b P = m := by
 have : (List.range b).find? P = some m := List.find?_range_eq_some.2 ⟨h, List.mem_range.2 hm, fun j hj => by simp [hl j hj]⟩
 unfold fstI; rw [this]
theorem fstI_none {b : Nat} {P : Nat → Bool} (h : ∀ j, j < b → P j = false) : fstI b P = -1 := by
 have : (List.range b).find? P = none := List.find?_eq_none.2 fun j hj => by simp [h j (List.mem_range.1 hj)]
 unfold fstI; rw [this]
theorem fstI_cases (b : Nat) (P : Nat → Bool) : (fstI b P = -1 ∧ ∀ j, j < b → P j = false) ∨ ∃ m : Nat, fstI b P = m ∧ m < b ∧ P m = true ∧ ∀ j, j < m → P j = false := by
 cases h : (List.range b).find? P with
 | none => exact .inl ⟨by unfold fstI; rw [h], fun j hj => by have := List.find?_eq_none.1 h j (List.mem_range.2 hj); simpa using this⟩
 | some m =>
  obtain ⟨h1, h2, h3⟩ := List.find?_range_eq_some.1 h
  exact .inr ⟨m, by unfold fstI; rw [h], List.mem_range.1 h2, h1, fun j hj => by simpa using h3 j hj⟩
theorem fstI_congr {b : Nat} {P Q : Nat → Bool} (h : ∀ j, j < b → P j = Q j) : fstI b P = fstI b Q := by
 rcases fstI_cases b P with ⟨h1, h2⟩ | ⟨m, h1, h2, h3, h4⟩
 ·rw [h1, fstI_none fun j hj => by rw [← h j hj]; exact h2 j hj]
 ·rw [h1, fstI_some h2 (by rw [← h m h2]; exact h3) fun j hj => by rw [← h j (by omega)]; exact h4 j hj]
def tab (n : Nat) (f : Nat → Int) : List Int := (List.range n).map f
theorem tab_len (n : Nat) (f : Nat → Int) : (tab n f).length = n := by simp [tab]
theorem gi_tab {n : Nat} {f : Nat → Int} {w : Nat} (h : w < n) : gi (tab n f) w = f w := by simp [tab, gi, h]
theorem tab_eq {n : Nat} {f : Nat → Int} {l : List Int} (hl : l.length = n) (h : ∀ w, w < n → gi l w = f w) : l = tab n f := ints_ext' (hl.trans (tab_len n f).symm) fun w hw => by rw [gi_tab (by omega)]; exact h w (by omega)
def wdn (N : Net) (root : Nat) : Nat → List Int
 | 0 => (List.replicate N.ends.length (-1)).set root 0
 | r + 1 => tab N.ends.length fun w => if 0 ≤ gi (wdn N root r) w then gi (wdn N root r) w else if (List.range (gl N.ends w).length).any (fun j => gi (wdn N root r) (nd N w j) == (r : Int)) then (r : Int) + 1 else -1
def prt (N : Net) (d : List Int) (w : Nat) : Int := if gi d w ≤ 0 then -1 else fstI (gl N.ends w).length fun j => gi d (nd N w j) == gi d w - 1
def prts (N : Net) (d : List Int) : List Int := tab N.ends.length (prt N d)
section
variable {N : Net} {root : Nat}
structure WOk (N : Net) (root r : Nat) (d : List Int) : Prop where
 len : d.length = N.ends.length
 rt : gi d root = 0
 zero : ∀ w, w < N.ends.length → gi d w = 0 → w = root
 low : ∀ w, w < N.ends.length → -1 ≤ gi d w
 bnd : ∀ w, w < N.ends.length → gi d w ≤ r
 back : ∀ w, w < N.ends.length → 0 < gi d w → ∃ j, j < (gl N.ends w).length ∧ gi d (nd N w j) = gi d w - 1
 step : ∀ w, w < N.ends.length → 0 ≤ gi d w → gi d w < r → ∀ j, j < (gl N.ends w).length → 0 ≤ gi d (nd N w j) ∧ gi d (nd N w j) ≤ gi d w + 1
theorem wdn_succ {r w : Nat} (hw : w < N.ends.length) : gi (wdn N root (r + 1)) w = if 0 ≤ gi (wdn N root r) w then gi (wdn N root r) w else if (List.range (gl N.ends w).length).any (fun j => gi (wdn N root r) (nd N w j) == (r : Int)) then (r : Int) + 1 else -1 := by
 rw [wdn, gi_tab hw]
theorem wdn_old {r w : Nat} (hw : w < N.ends.length) (h : 0 ≤ gi (wdn N root r) w) : gi (wdn N root (r + 1)) w = gi (wdn N root r) w := by rw [wdn_succ hw, if_pos h]
theorem wdn_new {r w j : Nat} (hw : w < N.ends.length) (h : gi (wdn N root r) w < 0) (hj : j < (gl N.ends w).length) (he : gi (wdn N root r) (nd N w j) = r) : gi (wdn N root (r + 1)) w = (r : Int) + 1 := by
 rw [wdn_succ hw, if_neg (by omega), if_pos]
 rw [List.any_eq_true]
 exact ⟨j, List.mem_range.2 hj, by simp [he]⟩
theorem wdn_non {r w : Nat} (hw : w < N.ends.length) (h : gi (wdn N root r) w < 0) (he : ∀ j, j < (gl N.ends w).length → gi (wdn N root r) (nd N w j) ≠ r) : gi (wdn N root (r + 1)) w = -1 := by
 rw [wdn_succ hw, if_neg (by omega), if_neg]
 rw [List.any_eq_true]
 rintro ⟨j, hj, h2⟩
 exact he j (List.mem_range.1 hj) (by simpa using h2)
theorem wdn_ok (hs : Sym N.ends) (hr : root < N.ends.length) : ∀ r, WOk N root r (wdn N root r)
 | 0 => by
  have h := BfsI.start hr
  exact ⟨h.len, h.root, h.zero, h.low, fun w hw => by
   have h1 := h.bnd w hw
   have h2 := h.hd root [] rfl
   by_cases hc : 0 ≤ gi ((List.replicate N.ends.length (-1)).set root 0) w
   ·have := (h.mem w hw).1 hc
    simp at this
    rw [this]; exact h2
   ·show gi ((List.replicate N.ends.length (-1)).set root 0) w ≤ _; omega, h.back, fun w hw h1 h2 => by simp at h2; omega⟩
 | r + 1 => by
  have ih := wdn_ok hs hr r
  have key : ∀ w, w < N.ends.length → (0 ≤ gi (wdn N root r) w ∧ gi (wdn N root (r + 1)) w = gi (wdn N root r) w) ∨ (gi (wdn N root r) w < 0 ∧ gi (wdn N root (r + 1)) w = -1 ∧ ∀ j, j < (gl N.ends w).length → gi (wdn N root r) (nd N w j) ≠ r) ∨
   (gi (wdn N root r) w < 0 ∧ gi (wdn N root (r + 1)) w = (r : Int) + 1 ∧ ∃ j, j < (gl N.ends w).length ∧ gi (wdn N root r) (nd N w j) = r) := fun w hw => by
   by_cases h0 : 0 ≤ gi (wdn N root r) w
   ·exact .inl ⟨h0, wdn_old hw h0⟩
   ·by_cases h1 : ∃ j, j < (gl N.ends w).length ∧ gi (wdn N root r) (nd N w j) = r
    ·obtain ⟨j, hj, he⟩ := h1
     exact .inr (.inr ⟨by omega, wdn_new hw (by omega) hj he, j, hj, he⟩)
    ·have h2 : ∀ j, j < (gl N.ends w).length → gi (wdn N root r) (nd N w j) ≠ r := fun j hj he => h1 ⟨j, hj, he⟩
     exact .inr (.inl ⟨by omega, wdn_non hw (by omega) h2, h2⟩)
  refine ⟨by rw [wdn, tab_len], ?_, fun w hw h => ?_, fun w hw => ?_, fun w hw => ?_, fun w hw h => ?_, fun w hw h h2 j hj => ?_⟩
  ·rw [wdn_old hr (by rw [ih.rt]; exact Int.le_refl 0)]; exact ih.rt
  ·rcases key w hw with ⟨h1, h2⟩ | ⟨h1, h2, -⟩ | ⟨h1, h2, -⟩
   ·exact ih.zero w hw (by omega)
   ·omega
   ·omega
  ·have := ih.low w hw
   rcases key w hw with ⟨h1, h2⟩ | ⟨h1, h2, -⟩ | ⟨h1, h2, -⟩ <;> omega
  ·have := ih.bnd w hw
   rcases key w hw with ⟨h1, h2⟩ | ⟨h1, h2, -⟩ | ⟨h1, h2, -⟩ <;> omega
  ·rcases key w hw with ⟨h1, h2⟩ | ⟨h1, h2, -⟩ | ⟨h1, h2, j, hj, h3⟩
   ·rw [h2] at h ⊢
    obtain ⟨j, hj, h3⟩ := ih.back w hw h
    exact ⟨j, hj, by rw [wdn_old (sym_nd hs hw hj).1 (by omega)]; exact h3⟩
   ·omega
   ·exact ⟨j, hj, by rw [wdn_old (sym_nd hs hw hj).1 (by omega), h2]; omega⟩
  ·obtain ⟨hx, hbk, hnb, -⟩ := sym_nd hs hw hj
   rcases key w hw with ⟨h3, h4⟩ | ⟨h3, h4, -⟩ | ⟨h3, h4, -⟩
   ·by_cases hlt : gi (wdn N root r) w < r
    ·have := ih.step w hw h3 hlt j hj
     rw [wdn_old hx this.1, h4]; exact this
    ·have hwr : gi (wdn N root r) w = r := by have := ih.bnd w hw; omega
     by_cases hx0 : 0 ≤ gi (wdn N root r) (nd N w j)
     ·have := ih.bnd _ hx
      rw [wdn_old hx hx0, h4]; omega
     ·rw [wdn_new hx (by omega) hbk (by rw [hnb]; exact hwr), h4]; omega
   ·omega
   ·push_cast at h2; omega
theorem WOk.dist {r : Nat} {d : List Int} (h : WOk N root r d) (hn : ∀ w, w < N.ends.length → gi d w ≠ r) : IsDist N root d :=
 ⟨h.len, h.rt, h.zero, h.low, h.back, fun w hw h0 j hj => h.step w hw h0 (by have := h.bnd w hw; have := hn w hw; omega) j hj⟩
theorem WOk.chain {r : Nat} {d : List Int} (hs : Sym N.ends) (h : WOk N root r d) : ∀ (k : Nat) w, w < N.ends.length → gi d w = k → ∃ l : List Nat, l.length = k + 1 ∧ l.Nodup ∧ ∀ x ∈ l, x < N.ends.length ∧ gi d x ≤ k
 | 0, w, hw, hk => ⟨[w], rfl, by simp, fun x hx => by simp at hx; rw [hx]; exact ⟨hw, by omega⟩⟩
 | k + 1, w, hw, hk => by
  obtain ⟨j, hj, h2⟩ := h.back w hw (by omega)
  obtain ⟨l, h3, h4, h5⟩ := WOk.chain hs h k _ (sym_nd hs hw hj).1 (by omega)
  refine ⟨w :: l, by simp [h3], List.nodup_cons.2 ⟨fun hm => by have := (h5 w hm).2; omega, h4⟩, fun x hx => ?_⟩
  rcases List.mem_cons.1 hx with rfl | hx
  ·exact ⟨hw, by omega⟩
  ·have := h5 x hx; exact ⟨this.1, by omega⟩
theorem WOk.lt {r : Nat} {d : List Int} (hs : Sym N.ends) (h : WOk N root r d) {w : Nat} (hw : w < N.ends.length) : gi d w < N.ends.length := by
 by_cases h0 : 0 ≤ gi d w
 ·obtain ⟨k, hk⟩ := Int.eq_ofNat_of_zero_le h0
  obtain ⟨l, h1, h2, h3⟩ := h.chain hs k w hw hk
  have := h2.length_le_of_subset (show l ⊆ List.range N.ends.length from fun x hx => List.mem_range.2 (h3 x hx).1)
  simp at this
  omega
 ·omega
theorem prt_cases {r : Nat} {d : List Int} (h : WOk N root r d) {w : Nat} (hw : w < N.ends.length) : (gi d w ≤ 0 ∧ prt N d w = -1) ∨ (0 < gi d w ∧ ∃ m : Nat, prt N d w = m ∧ m < (gl N.ends w).length ∧ gi d (nd N w m) = gi d w - 1 ∧ ∀ j, j < m → gi d (nd N w j) ≠ gi d w - 1) := by
 unfold prt
 by_cases h0 : gi d w ≤ 0
 ·exact .inl ⟨h0, by rw [if_pos h0]⟩
 ·rw [if_neg h0]
  rcases fstI_cases (gl N.ends w).length (fun j => gi d (nd N w j) == gi d w - 1) with ⟨-, h2⟩ | ⟨m, h1, h2, h3, h4⟩
  ·obtain ⟨j, hj, he⟩ := h.back w hw (by omega)
   have := h2 j hj
   simp [he] at this
  ·exact .inr ⟨by omega, m, h1, h2, by simpa using h3, fun j hj => by simpa using h4 j hj⟩
theorem prt_old (hs : Sym N.ends) (hr : root < N.ends.length) {r w : Nat} (hw : w < N.ends.length) (h0 : 0 ≤ gi (wdn N root r) w) : prt N (wdn N root (r + 1)) w = prt N (wdn N root r) w := by
 have hok := wdn_ok hs hr r
 have hok1 := wdn_ok hs hr (r + 1)
 have ho := wdn_old hw h0
 unfold prt
 rw [ho]
 by_cases h1 : gi (wdn N root r) w ≤ 0
 ·rw [if_pos h1, if_pos h1]
 ·rw [if_neg h1, if_neg h1]
  refine fstI_congr fun j hj => ?_
  have hx := (sym_nd hs hw hj).1
  by_cases hx0 : 0 ≤ gi (wdn N root r) (nd N w j)
  ·rw [wdn_old hx hx0]
  ·have := hok.bnd w hw
   rw [wdn_succ hx, if_neg hx0]
   have e1 : (gi (wdn N root r) (nd N w j) == gi (wdn N root r) w - 1) = false := by simp; omega
   rw [e1]
   split <;> simp <;> omega
theorem prt_no (hs : Sym N.ends) (hr : root < N.ends.length) {r w j : Nat} (hw : w < N.ends.length) (h0 : gi (wdn N root r) w < 0) (hj : j < (gl N.ends w).length) : prt N (wdn N root r) (nd N w j) ≠ bk N w j := by
 obtain ⟨hx, hb, hnb, -⟩ := sym_nd hs hw hj
 intro e
 rcases prt_cases (wdn_ok hs hr r) hx with ⟨-, h2⟩ | ⟨h1, m, h2, -, h4, -⟩
 ·omega
 ·have : m = bk N w j := by omega
  subst this
  rw [hnb] at h4
  omega
def snt (p : Int) : Nat → Int
 | 0 => 0
 | k + 1 => snt p k + if (k : Int) ≠ p then 1 else 0
theorem snt_bnd (p : Int) : ∀ k : Nat, 0 ≤ snt p k ∧ snt p k ≤ k
 | 0 => by simp [snt]
 | k + 1 => by have := snt_bnd p k; rw [snt]; split <;> push_cast <;> omega
theorem snt_mono (p : Int) {k i : Nat} (hi : i < k) (hp : (i : Int) ≠ p) : 1 ≤ snt p k := by
 induction k with
 | zero => omega
 | succ k ih =>
  have := snt_bnd p k
  rw [snt]
  by_cases h : i = k
  ·subst h; rw [if_pos hp]; omega
  ·have := ih (by omega); split <;> omega
def sentR (N : Net) (root r : Nat) : Int := sumTo N.ends.length fun w => if gi (wdn N root r) w = r then snt (prt N (wdn N root r) w) (gl N.ends w).length else 0
def msgs (N : Net) (root : Nat) : Nat → Int
 | 0 => 0
 | r + 1 => msgs N root r + sentR N root r
theorem sent_zero (hs : Sym N.ends) (hr : root < N.ends.length) {r : Nat} (h : sentR N root r = 0) : wdn N root (r + 1) = wdn N root r := by
 refine ints_ext' (by rw [(wdn_ok hs hr _).len, (wdn_ok hs hr _).len]) fun w hw => ?_
 rw [(wdn_ok hs hr _).len] at hw
 by_cases h0 : 0 ≤ gi (wdn N root r) w
 ·exact wdn_old hw h0
 ·have hl := (wdn_ok hs hr r).low w hw
  rw [wdn_non hw (by omega)]
  ·omega
  ·intro j hj he
   obtain ⟨hx, hb, -⟩ := sym_nd hs hw hj
   have h1 := snt_mono (prt N (wdn N root r) (nd N w j)) hb (prt_no hs hr hw (by omega) hj).symm
   have h2 := sumTo_term N.ends.length (f := fun w => if gi (wdn N root r) w = r then snt (prt N (wdn N root r) w) (gl N.ends w).length else 0) (fun i _ => by split; exact (snt_bnd _ _).1; exact Int.le_refl 0) hx
   rw [if_pos he] at h2
   unfold sentR at h
   omega
theorem no_front {r : Nat} (h : ∀ w, w < N.ends.length → gi (wdn N root r) w ≠ r) : sentR N root r = 0 := sumTo_zero _ fun i hi => by rw [if_neg (h i hi)]
theorem last_round (hs : Sym N.ends) (hr : root < N.ends.length) {r : Nat} (h : wdn N root (r + 1) = wdn N root r) : wdn N root r = dists N root := by
 refine (((wdn_ok hs hr (r + 1)).dist fun w hw e => ?_).eq hs ▸ h.symm)
 have := (wdn_ok hs hr r).bnd w hw
 rw [h] at e
 omega
end
end
end Go.Proofs.YtlaahgdikiiahaaGreat
