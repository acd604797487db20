/- Parts of the proof. -/
import Derived.Test.YtolpiolnhgpjjaaGreatCJn6
import Derived.ProofKit
import Derived.Deep.SlicePairs
import Derived.Lib.SmallJoins
set_option linter.unusedSimpArgs false
set_option linter.unusedVariables false
namespace Go.Proofs.YtolpiolnhgpjjaaGreat
section
open Go.ChangeShapes Go.WideShapes Go.ChangeAt Go.RowKit Go.Deep Go.Joins
theorem xf {H : Type} {enc : TypeId × Value → H} {P : Program} {w : World} {base : Nat} {spare : Nat → Bool} {held : Bool} {t e : TypeId} {fuel : Nat} {cs : List Value} {x : DataW H × List MemPlace} (ht : P.underlying t = some (.slice e)) (he : P.underlying e = some (.int .u8)) (hc : P.cellsOf e = 1)
 (h : DataW.trod enc P w base spare held fuel t cs = some x) : ∃ v L, cs = [v] ∧ F2 w v L := by
 rcases open_slice1 ht hc h with ⟨rfl, _⟩ | ⟨a, len, cap, m, n, V, D, Pl, rfl, hb, hl, hm, hmm, _, hx⟩
 ·exact ⟨_, 0, rfl, none, 0, rfl, by omega, ⟨by omega, by unfold maxLen; omega⟩, fun h => absurd h (Nat.lt_irrefl _)⟩
 ·have hlm : len ≤ m := by rw [hmm]; split <;> omega
  have hz : ∀ i, i < len → ∃ z : Int, V i = .int .u8 z ∧ 0 ≤ z ∧ z ≤ 255 := fun i hi => by
   obtain ⟨_, h2⟩ := hx i (by omega);obtain ⟨q, e1, _, hw⟩ := DataW.trod_int he h2;simp only [List.cons.injEq, and_true] at e1;simp only [Lit.wf, Bool.and_eq_true, decide_eq_true_eq] at hw;exact ⟨q, e1, hw.1, hw.2⟩
  refine ⟨_, len, rfl, some a, cap, rfl, by have := hl; unfold maxLen at hm; omega, ⟨hl, hm⟩, fun hp => ?_⟩;have h0 := (hx 0 (by omega)).1;obtain ⟨b, off, sp⟩ := a;have hsp : sp = none := by simpa [Addr.add] using World.cell?_spot h0
  subst hsp;refine ⟨b, off, rfl, fun j hj => ?_⟩;have := (hx j (by omega)).1;rw [add_plain] at this;obtain ⟨z, hz1, hz2, hz3⟩ := hz j hj;exact ⟨z, hz2, hz3, by rw [this, hz1]⟩
end
section
def ct (b : Nat → Bool) : Nat → Nat
 | 0 => 0
 | n + 1 => ct b n + if b n = true then 1 else 0
def sm (f : Nat → Nat) : Nat → Nat
 | 0 => 0
 | n + 1 => sm f n + f n
theorem Pn (b : Nat → Bool) : ∀ n, ct b n = sm (fun i => if b i = true then 1 else 0) n
 | 0 => rfl
 | n + 1 => by rw [ct, sm, Pn b n]
theorem qr {f g : Nat → Nat} : ∀ n, (∀ i, i < n → f i = g i) → sm f n = sm g n
 | 0, _ => rfl
 | n + 1, h => by rw [sm, sm, qr n fun i hi => h i (by omega), h n (by omega)]
theorem In : ∀ n, sm (fun _ => 0) n = 0
 | 0 => rfl
 | n + 1 => by rw [sm, In n]
theorem Ms (f g : Nat → Nat) : ∀ n, sm (fun i => f i + g i) n = sm f n + sm g n
 | 0 => rfl
 | n + 1 => by rw [sm, sm, sm, Ms f g n]; omega
theorem Io (f : Nat → Nat → Nat) (m : Nat) : ∀ n, sm (fun i => sm (f i) m) n = sm (fun j => sm (fun i => f i j) n) m
 | 0 => by show 0 = sm (fun _ => 0) m; rw [In]
 | n + 1 => by
  rw [sm, Io f m n, ← Ms];rfl
theorem Ge {a c : Nat} : ∀ n, sm (fun i => if i = a then c else 0) n = if a < n then c else 0
 | 0 => by simp [sm]
 | n + 1 => by
  rw [sm, Ge n]
  by_cases h : n = a
  ·subst h; simp
  ·rw [if_neg h]
   by_cases h2 : a < n
   ·rw [if_pos h2, if_pos (by omega), Nat.add_zero]
   ·rw [if_neg h2, if_neg (by omega)]
theorem Po {b c : Nat → Bool} : ∀ n, (∀ i, i < n → b i = true → c i = true) → ct b n ≤ ct c n
 | 0, _ => Nat.le_refl _
 | n + 1, h => by
  have := Po n fun i hi => h i (by omega);rw [ct, ct];have h2 := h n (by omega);split
  ·rename_i h3; rw [if_pos (h2 h3)]; omega
  ·omega
theorem Fe (b c : Nat → Bool) : ∀ n, ct b n = ct (fun i => b i && c i) n + ct (fun i => b i && !c i) n
 | 0 => rfl
 | n + 1 => by
  rw [ct, ct, ct, Fe b c n];cases b n <;> cases c n <;> simp <;> omega
theorem Pp {p : Nat → Nat} {n : Nat} (hp : ∀ v, v < n → p v < n ∧ p (p v) = v) (b : Nat → Bool) : ct (fun v => b (p v)) n = ct b n := by
 have h1 : ∀ v, v < n → (if b (p v) = true then 1 else 0) = sm (fun w => if w = p v then (if b w = true then 1 else 0) else 0) n := fun v hv => by
  have : (fun w => if w = p v then (if b w = true then 1 else 0) else 0) = fun w => if w = p v then (if b (p v) = true then 1 else 0) else 0 := by
   funext w; by_cases h : w = p v
   ·rw [if_pos h, if_pos h, h]
   ·rw [if_neg h, if_neg h]
  rw [this, Ge, if_pos (hp v hv).1]
 rw [Pn, Pn, qr n h1, Io];refine qr n fun w hw => ?_
 have h2 : ∀ v, v < n → (if w = p v then (if b w = true then 1 else 0) else 0) = (if v = p w then (if b w = true then 1 else 0) else 0) := fun v hv => by
  by_cases h : w = p v
  ·have h3 : v = p w := by rw [h, (hp v hv).2]
   exact (if_pos h).trans (if_pos h3).symm
  ·rw [if_neg h, if_neg (fun h3 => h (by rw [h3, (hp w hw).2]))]
 rw [qr n h2, Ge, if_pos (hp w hw).1]
section
variable {p q : Nat → Nat} {n : Nat}
end
end
section
theorem iz (b : Nat → Bool) (n : Nat) : ∀ m, ct b (n + m) = ct b n + ct (fun i => b (i + n)) m
 | 0 => rfl
 | m + 1 => by
  rw [← Nat.add_assoc, ct, ct, iz b n m, Nat.add_comm n m];omega
theorem yz {b : Nat → Bool} : ∀ n, (∀ i, i < n → b i = false) → ct b n = 0
 | 0, _ => rfl
 | n + 1, h => by rw [ct, yz n fun i hi => h i (by omega), h n (by omega)]; rfl
theorem sa {b c : Nat → Bool} : ∀ n, (∀ i, i < n → b i = c i) → ct b n = ct c n
 | 0, _ => rfl
 | n + 1, h => by rw [ct, ct, sa n fun i hi => h i (by omega), h n (by omega)]
theorem Sz (b c : Nat → Bool) : ∀ n, ct (fun i => b i || c i) n ≤ ct b n + ct c n
 | 0 => Nat.le_refl _
 | n + 1 => by
  have := Sz b c n;rw [ct, ct, ct];cases b n <;> cases c n <;> simp <;> omega
section
variable {p : Nat → Nat} {n : Nat} {K : Nat → Bool}
theorem Lj (hp : ∀ v, v < n + n → p v < n + n ∧ p (p v) = v) (hl : ∀ v, v < n → p v ≠ v → n ≤ p v) (hr : ∀ v, v < n → p (v + n) ≠ v + n → p (v + n) < n) (hK : ∀ v, v < n → p v ≠ v → K v = true ∨ K (p v - n) = true) :
 ct (fun v => decide (p v ≠ v) || decide (p (v + n) ≠ v + n)) n ≤ 3 * ct K n := by
 have h1 := Fe (fun v => decide (p v ≠ v) || decide (p (v + n) ≠ v + n)) K n
 have h2 : ct (fun v => (decide (p v ≠ v) || decide (p (v + n) ≠ v + n)) && K v) n ≤ ct K n := Po n fun i _ h => by
  rw [Bool.and_eq_true] at h; exact h.2
 have h3 : ct (fun v => (decide (p v ≠ v) || decide (p (v + n) ≠ v + n)) && !K v) n ≤ ct (fun v => (decide (n ≤ p v) && K (p v - n)) || (decide (p (v + n) < n) && K (p (v + n)))) n := Po n fun i hi h => by
  simp only [Bool.and_eq_true, Bool.or_eq_true, decide_eq_true_eq, Bool.not_eq_true'] at h ⊢;obtain ⟨h4, h5⟩ := h
  rcases h4 with h4 | h4
  ·left;refine ⟨hl i hi h4, ?_⟩
   rcases hK i hi h4 with h6 | h6
   ·rw [h5] at h6; cases h6
   ·exact h6
  ·right;have h6 := hr i hi h4;refine ⟨h6, ?_⟩;have h7 := (hp (i + n) (by omega)).2
   rcases hK (p (i + n)) h6 (by rw [h7]; omega) with h8 | h8
   ·exact h8
   ·rw [h7, Nat.add_sub_cancel, h5] at h8; cases h8
 have h4 := Sz (fun v => decide (n ≤ p v) && K (p v - n)) (fun v => decide (p (v + n) < n) && K (p (v + n))) n
 have h5 : ct (fun v => decide (n ≤ p v) && K (p v - n)) n ≤ ct K n := by
  have g1 := Pp hp fun x => decide (n ≤ x) && K (x - n);have g2 := iz (fun v => decide (n ≤ p v) && K (p v - n)) n n;have g3 := iz (fun x => decide (n ≤ x) && K (x - n)) n n
  have g4 : ct (fun x => decide (n ≤ x) && K (x - n)) n = 0 := yz n fun i hi => by
   have : ¬ n ≤ i := by omega
   simp [this]
  have g5 : ct (fun i => decide (n ≤ i + n) && K (i + n - n)) n = ct K n := sa n fun i _ => by simp
  omega
 have h6 : ct (fun v => decide (p (v + n) < n) && K (p (v + n))) n ≤ ct K n := by
  have g1 := Pp hp fun x => decide (x < n) && K x;have g2 := iz (fun v => decide (p v < n) && K (p v)) n n;have g3 := iz (fun x => decide (x < n) && K x) n n
  have g4 : ct (fun i => decide (i + n < n) && K (i + n)) n = 0 := yz n fun i hi => by
   have : ¬ i + n < n := by omega
   simp [this]
  have g5 : ct (fun i => decide (i < n) && K i) n = ct K n := sa n fun i hi => by simp [hi]
  omega
 omega
end
end
section
structure MatN (ess : List (List (Int × Int))) (m : List Int) : Prop where
 len : m.length = ess.length
 at_ : ∀ v, v < ess.length → gi m v = -1 ∨ ∃ i w j : Nat, gi m v = i ∧ i < dg ess v ∧ pt ess v i = ((w : Int), (j : Int)) ∧ w ≠ v ∧ w < ess.length ∧ gi m w = j
def tp (ess : List (List (Int × Int))) (m : List Int) (v : Nat) : Nat := if gi m v < 0 then v else (pt ess v (gi m v).toNat).1.toNat
section
variable {ess : List (List (Int × Int))} {m q : List Int}
theorem Au {v : Nat} (h : gi m v < 0) : tp ess m v = v := if_pos h
theorem wh {v i w j : Nat} (h : gi m v = i) (h2 : pt ess v i = ((w : Int), (j : Int))) : tp ess m v = w := by
 unfold tp;rw [if_neg (by omega), h, Int.toNat_natCast, h2];exact Int.toNat_natCast w
theorem Ok (hs : Sym ess) (hm : MatN ess m) : ∀ v, v < ess.length → tp ess m v < ess.length ∧ tp ess m (tp ess m v) = v := fun v hv => by
 rcases hm.at_ v hv with h | ⟨i, w, j, h1, h2, h3, h4, h5, h6⟩
 ·have := Au (ess := ess) (m := m) (v := v) (by omega);rw [this, this]; exact ⟨hv, rfl⟩
 ·obtain ⟨b, j', e, hb, hj, e2⟩ := hs v i hv h2;rw [h3] at e;simp at e;obtain ⟨e3, e4⟩ := e;obtain rfl : b = w := by omega
  obtain rfl : j' = j := by omega
  have h7 := wh h1 h3;rw [h7, wh h6 e2];exact ⟨hb, rfl⟩
theorem wg (hm : MatN ess m) {v : Nat} (hv : v < ess.length) : tp ess m v ≠ v ↔ 0 ≤ gi m v := by
 rcases hm.at_ v hv with h | ⟨i, w, j, h1, h2, h3, h4, h5, h6⟩
 ·rw [Au (by omega)];exact ⟨fun g => absurd rfl g, fun g => by omega⟩
 ·rw [wh h1 h3];exact ⟨fun _ => by omega, fun _ => h4⟩
theorem Aw (hm : MatN ess m) {v : Nat} (hv : v < ess.length) (h : 0 ≤ gi m v) : ∃ i, i < dg ess v ∧ (pt ess v i).1 = (tp ess m v : Nat) := by
 rcases hm.at_ v hv with h0 | ⟨i, w, j, h1, h2, h3, h4, h5, h6⟩
 ·omega
 ·exact ⟨i, h2, by rw [wh h1 h3, h3]⟩
theorem MatN.none : MatN ess (List.replicate ess.length (-1)) := ⟨by simp, fun v hv => .inl (by unfold gi; simp [hv])⟩
theorem MatN.take (hs : Sym ess) (hm : MatN ess m) {v i w j : Nat} (hv : v < ess.length) (hi : i < dg ess v) (he : pt ess v i = ((w : Int), (j : Int))) (hw : w < ess.length) (hne : w ≠ v) (h1 : gi m v < 0) (h2 : gi m w < 0) : MatN ess ((m.set v (i : Int)).set w (j : Int)) := by
 have hl := hm.len
 have hj : j < dg ess w ∧ pt ess w j = ((v : Int), (i : Int)) := by
  obtain ⟨b, j', e, hb, hj, e2⟩ := hs v i hv hi;rw [he] at e;simp at e;obtain ⟨e3, e4⟩ := e;obtain rfl : b = w := by omega
  obtain rfl : j' = j := by omega
  exact ⟨hj, e2⟩
 have hat : ∀ x, gi ((m.set v (i : Int)).set w (j : Int)) x = if x = w then (j : Int) else if x = v then (i : Int) else gi m x := fun x => by
  rw [md (by rw [List.length_set]; omega), md (by omega)]
 refine ⟨by simp [hl], fun x hx => ?_⟩;rw [hat]
 by_cases hxw : x = w
 ·subst hxw;rw [if_pos rfl];exact .inr ⟨j, v, i, rfl, hj.1, hj.2, fun h => hne h.symm, hv, by rw [hat, if_neg fun h => hne h.symm, if_pos rfl]⟩
 ·rw [if_neg hxw]
  by_cases hxv : x = v
  ·subst hxv;rw [if_pos rfl];exact .inr ⟨i, w, j, rfl, hi, he, hne, hw, by rw [hat, if_pos rfl]⟩
  ·rw [if_neg hxv]
   rcases hm.at_ x hx with h | ⟨i', w', j', g1, g2, g3, g4, g5, g6⟩
   ·exact .inl h
   ·refine .inr ⟨i', w', j', g1, g2, g3, g4, g5, ?_⟩;rw [hat, if_neg (fun h => by subst h; omega), if_neg (fun h => by subst h; omega)];exact g6
end
end
section
section
variable (ess : List (List (Int × Int))) (sd : Nat → Bool)
def prJ (m : List Int) (r w : Nat) : Option Nat := if sd w = true ∧ gi m w < 0 then (List.range (dg ess w)).find? fun j => decide (gi m (pt ess w j).1.toNat < 0) && decide ((pt ess w j).2 = (r : Int)) else none
def prT (m : List Int) (r : Nat) : Nat → List Int
 | 0 => m
 | w + 1 => match prJ ess sd m r w with
  | some j => ((prT m r w).set w (j : Int)).set (pt ess w j).1.toNat (r : Int)
  | none => prT m r w
def prM : Nat → List Int
 | 0 => List.replicate ess.length (-1)
 | r + 1 => prT ess sd (prM r) r ess.length
end
section
variable {ess : List (List (Int × Int))} {sd : Nat → Bool} {m : List Int} {r : Nat}
theorem lb {w j : Nat} (h : prJ ess sd m r w = some j) : sd w = true ∧ gi m w < 0 ∧ j < dg ess w ∧ gi m (pt ess w j).1.toNat < 0 ∧ (pt ess w j).2 = (r : Int) := by
 unfold prJ at h;split at h
 ·rename_i h1
  have h2 := List.find?_some h;have h3 := List.mem_of_find?_eq_some h;simp at h2 h3;exact ⟨h1.1, h1.2, h3, h2.1, h2.2⟩
 ·cases h
theorem M9 {w : Nat} (h : prJ ess sd m r w = none) (h1 : sd w = true) (h2 : gi m w < 0) : ∀ j, j < dg ess w → gi m (pt ess w j).1.toNat < 0 → (pt ess w j).2 ≠ (r : Int) := fun j hj hf hp => by
 unfold prJ at h;rw [if_pos ⟨h1, h2⟩] at h;have := List.find?_eq_none.1 h j (List.mem_range.2 hj);simp [hf, hp] at this
structure Xp (ess : List (List (Int × Int))) (sd : Nat → Bool) (m : List Int) (r w : Nat) (out : List Int) : Prop where
 mat : MatN ess out
 old : ∀ y, y < ess.length → 0 ≤ gi m y → gi out y = gi m y
 asked : ∀ y, y < ess.length → sd y = true → w ≤ y → gi out y = gi m y
 asks : ∀ y, y < ess.length → sd y = false → gi m y < 0 → 0 ≤ gi out y → ∃ x j, x < w ∧ prJ ess sd m r x = some j ∧ (pt ess x j).1 = (y : Int)
 got : ∀ x j, x < w → prJ ess sd m r x = some j → 0 ≤ gi out x
theorem B9 (hs : Sym ess) (hm : MatN ess m) (h2 : ∀ v i, v < ess.length → i < dg ess v → sd (pt ess v i).1.toNat ≠ sd v) : ∀ w, w ≤ ess.length → Xp ess sd m r w (prT ess sd m r w)
 | 0, _ => ⟨hm, fun _ _ _ => rfl, fun _ _ _ _ => rfl, fun y _ _ h1 h2 => by have : gi m y = gi (prT ess sd m r 0) y := rfl; omega, fun x j h => absurd h (Nat.not_lt_zero _)⟩
 | w + 1, hw => by
  obtain ⟨g1, g2, g3, g4, g5⟩ := B9 hs hm h2 w (by omega)
  cases hj : prJ ess sd m r w with
  | none =>
   have he : prT ess sd m r (w + 1) = prT ess sd m r w := by rw [prT, hj]
   rw [he];refine ⟨g1, g2, fun y hy hsd hwy => g3 y hy hsd (by omega), fun y hy hsd h3 h4 => ?_, fun x j hx h3 => ?_⟩
   ·obtain ⟨x, j, k1, k2⟩ := g4 y hy hsd h3 h4;exact ⟨x, j, by omega, k2⟩
   ·rcases Nat.lt_or_ge x w with h4 | h4
    ·exact g5 x j h4 h3
    ·obtain rfl : x = w := by omega
     rw [hj] at h3; cases h3
  | some j =>
   obtain ⟨k1, k2, k3, k4, k5⟩ := lb hj;obtain ⟨v, p, e, hv, hp, e2⟩ := hs w j (by omega) k3;have hsv := h2 w j (by omega) k3;rw [e] at k4 k5 hsv;simp only [Int.toNat_natCast] at k4 hsv;obtain rfl : p = r := by have : (p : Int) = r := k5; omega
   have hvw : v ≠ w := fun h => hsv (by rw [h]);have hsdv : sd v = false := by rw [k1] at hsv; simpa using hsv
   have fw : gi (prT ess sd m p w) w < 0 := by rw [g3 w (by omega) k1 (Nat.le_refl _)]; exact k2
   have fv : gi (prT ess sd m p w) v < 0 := by
    refine Int.lt_of_not_ge fun h => ?_;obtain ⟨x, i, q1, q2, q3⟩ := g4 v hv hsdv k4 h;obtain ⟨-, -, q4, -, q5⟩ := lb q2;obtain ⟨b, t, f1, -, -, f2⟩ := hs x i (by omega) q4;rw [f1] at q3 q5;obtain rfl : b = v := by have : (b : Int) = v := q3; omega
    obtain rfl : t = p := by have : (t : Int) = p := q5; omega
    rw [e2] at f2;simp at f2;omega
   have he : prT ess sd m p (w + 1) = ((prT ess sd m p w).set w (j : Int)).set v (p : Int) := by
    rw [prT, hj];show ((prT ess sd m p w).set w (j : Int)).set (pt ess w j).1.toNat (p : Int) = _;rw [e]; rfl
   have hl := g1.len
   have hat : ∀ y, gi (((prT ess sd m p w).set w (j : Int)).set v (p : Int)) y = if y = v then (p : Int) else if y = w then (j : Int) else gi (prT ess sd m p w) y := fun y => by
    rw [md (by rw [List.length_set]; omega), md (by omega)]
   rw [he];refine ⟨g1.take hs (by omega) k3 e hv hvw fw fv, fun y hy h3 => ?_, fun y hy hsd hwy => ?_, fun y hy hsd h3 h4 => ?_, fun x i hx h3 => ?_⟩
   ·rw [hat, if_neg (fun h => by subst h; omega), if_neg (fun h => by subst h; omega)];exact g2 y hy h3
   ·rw [hat, if_neg (fun h => by subst h; rw [hsdv] at hsd; cases hsd), if_neg (by omega)];exact g3 y hy hsd (by omega)
   ·by_cases h5 : y = v
    ·subst h5;exact ⟨w, j, by omega, hj, by rw [e]⟩
    ·rw [hat, if_neg h5] at h4
     by_cases h6 : y = w
     ·subst h6; rw [k1] at hsd; cases hsd
     ·rw [if_neg h6] at h4;obtain ⟨x, i, q1, q2⟩ := g4 y hy hsd h3 h4;exact ⟨x, i, by omega, q2⟩
   ·rw [hat];split
    ·omega
    ·split
     ·omega
     ·rename_i h5 h6
      exact g5 x i (by omega) h3
theorem ta (hs : Sym ess) (h2 : ∀ v i, v < ess.length → i < dg ess v → sd (pt ess v i).1.toNat ≠ sd v) : ∀ r, MatN ess (prM ess sd r)
 | 0 => MatN.none
 | r + 1 => (B9 hs (ta hs h2 r) h2 ess.length (Nat.le_refl _)).mat
theorem vy (hs : Sym ess) (h2 : ∀ v i, v < ess.length → i < dg ess v → sd (pt ess v i).1.toNat ≠ sd v) {y : Nat} (hy : y < ess.length) {a : Nat} (h : 0 ≤ gi (prM ess sd a) y) : ∀ b, a ≤ b → 0 ≤ gi (prM ess sd b) y
 | 0, hb => by
  obtain rfl : a = 0 := by omega
  exact h
 | b + 1, hb => by
  rcases Nat.lt_or_ge b a with h3 | h3
  ·obtain rfl : a = b + 1 := by omega
   exact h
  ·have h4 := vy hs h2 hy h b h3;have h5 := (B9 (r := b) hs (ta hs h2 b) h2 ess.length (Nat.le_refl _)).old y hy h4;have h6 : gi (prM ess sd (b + 1)) y = gi (prM ess sd b) y := h5;omega
theorem M8 (hs : Sym ess) (h2 : ∀ v i, v < ess.length → i < dg ess v → sd (pt ess v i).1.toNat ≠ sd v) {v i w : Nat} (hv : v < ess.length) (hi : i < dg ess v) (hsv : sd v = false) (he : (pt ess v i).1 = (w : Int)) {b : Nat} (hb : i < b) : 0 ≤ gi (prM ess sd b) v ∨ 0 ≤ gi (prM ess sd b) w := by
 obtain ⟨x, j, e, hx, hj, e2⟩ := hs v i hv hi;obtain rfl : x = w := by rw [e] at he; have : (x : Int) = w := he; omega
 have hsx := h2 v i hv hi;rw [e, hsv] at hsx;simp only [Int.toNat_natCast] at hsx;have hsx' : sd x = true := by simpa using hsx
 by_cases f1 : 0 ≤ gi (prM ess sd i) v
 ·exact .inl (vy hs h2 hv f1 b (by omega))
 by_cases f2 : 0 ≤ gi (prM ess sd i) x
 ·exact .inr (vy hs h2 hx f2 b (by omega))
 right;refine vy hs h2 hx (a := i + 1) ?_ b hb;have hok := B9 (r := i) hs (ta hs h2 i) h2 ess.length (Nat.le_refl _)
 cases hp : prJ ess sd (prM ess sd i) i x with
 | some j' => exact hok.got x j' hx hp
 | none =>
  have h3 := M9 hp hsx' (by omega) j hj (by rw [e2]; simp only [Int.toNat_natCast]; omega);rw [e2] at h3;exact absurd rfl h3
end
end
section
section
variable {ess : List (List (Int × Int))} {sd : Nat → Bool} {m : List Int} {r : Nat}
theorem l5 : ∀ w, (prT ess sd m r w).length = m.length
 | 0 => rfl
 | w + 1 => by
  rw [prT];split
  ·rw [List.length_set, List.length_set, l5 w]
  ·exact l5 w
structure PrV (ess : List (List (Int × Int))) (sd : Nat → Bool) (m : List Int) (r w : Nat) (out : List Int) : Prop where
 a1 : ∀ y, y < ess.length → sd y = true → ∀ j, y < w → prJ ess sd m r y = some j → gi out y = j
 a2 : ∀ y, y < ess.length → sd y = true → (y < w → prJ ess sd m r y = none) → gi out y = gi m y
 b1 : ∀ y, y < ess.length → sd y = false → ∀ x j, x < w → prJ ess sd m r x = some j → (pt ess x j).1 = (y : Int) → gi out y = r
 b2 : ∀ y, y < ess.length → sd y = false → (∀ x j, x < w → prJ ess sd m r x = some j → (pt ess x j).1 ≠ (y : Int)) → gi out y = gi m y
theorem vx (hs : Sym ess) (hl : m.length = ess.length) (h2 : ∀ v i, v < ess.length → i < dg ess v → sd (pt ess v i).1.toNat ≠ sd v) : ∀ w, w ≤ ess.length → PrV ess sd m r w (prT ess sd m r w)
 | 0, _ => ⟨fun y _ _ j h => absurd h (Nat.not_lt_zero _), fun _ _ _ _ => rfl, fun y _ _ x j h => absurd h (Nat.not_lt_zero _), fun _ _ _ _ => rfl⟩
 | w + 1, hw => by
  obtain ⟨g1, g2, g3, g4⟩ := vx hs hl h2 w (by omega)
  cases hj : prJ ess sd m r w with
  | none =>
   have he : prT ess sd m r (w + 1) = prT ess sd m r w := by rw [prT, hj]
   rw [he]
   have hne : ∀ x j, x < w + 1 → prJ ess sd m r x = some j → x < w := fun x j hx hp => by
    rcases Nat.lt_or_ge x w with h | h
    ·exact h
    ·obtain rfl : x = w := by omega
     rw [hj] at hp; cases hp
   exact ⟨fun y hy hsd j hyw hp => g1 y hy hsd j (hne y j hyw hp) hp, fun y hy hsd h => g2 y hy hsd fun h3 => h (by omega), fun y hy hsd x j hx hp => g3 y hy hsd x j (hne x j hx hp) hp, fun y hy hsd h => g4 y hy hsd fun x j hx => h x j (by omega)⟩
  | some j =>
   obtain ⟨k1, k2, k3, k4, k5⟩ := lb hj;obtain ⟨v, p, e, hv, hp, e2⟩ := hs w j (by omega) k3;have hsv := h2 w j (by omega) k3;rw [e] at hsv;simp only [Int.toNat_natCast] at hsv;have hsdv : sd v = false := by rw [k1] at hsv; simpa using hsv
   have he : prT ess sd m r (w + 1) = ((prT ess sd m r w).set w (j : Int)).set v (r : Int) := by
    rw [prT, hj];show ((prT ess sd m r w).set w (j : Int)).set (pt ess w j).1.toNat (r : Int) = _;rw [e]; rfl
   have hlo := l5 (ess := ess) (sd := sd) (m := m) (r := r) w
   have hat : ∀ y, gi (((prT ess sd m r w).set w (j : Int)).set v (r : Int)) y = if y = v then (r : Int) else if y = w then (j : Int) else gi (prT ess sd m r w) y := fun y => by
    rw [md (by rw [List.length_set]; omega), md (by omega)]
   have hyv : ∀ y, sd y = true → y ≠ v := fun y h h3 => by rw [h3, hsdv] at h; cases h
   have hyw : ∀ y, sd y = false → y ≠ w := fun y h h3 => by rw [h3, k1] at h; cases h
   rw [he];refine ⟨fun y hy hsd i hlt hpj => ?_, fun y hy hsd h => ?_, fun y hy hsd x i hx hpj hpt => ?_, fun y hy hsd h => ?_⟩
   ·rw [hat, if_neg (hyv y hsd)]
    by_cases h : y = w
    ·subst h;rw [if_pos rfl];rw [hj] at hpj; cases hpj; rfl
    ·rw [if_neg h]; exact g1 y hy hsd i (by omega) hpj
   ·have h3 : y ≠ w := fun h4 => by subst h4; rw [hj] at h; cases h (by omega)
    rw [hat, if_neg (hyv y hsd), if_neg h3];exact g2 y hy hsd fun h4 => h (by omega)
   ·rw [hat]
    by_cases h : y = v
    ·rw [if_pos h]
    ·rw [if_neg h, if_neg (hyw y hsd)]
     rcases Nat.lt_or_ge x w with h3 | h3
     ·exact g3 y hy hsd x i h3 hpj hpt
     ·obtain rfl : x = w := by omega
      rw [hj] at hpj; cases hpj;rw [e] at hpt;exact absurd (by have : (v : Int) = y := hpt; omega) h
   ·have h3 : y ≠ v := fun h4 => h w j (by omega) hj (by rw [e, h4]);rw [hat, if_neg h3, if_neg (hyw y hsd)];exact g4 y hy hsd fun x i hx => h x i (by omega)
end
section
variable {e1 e2 : List (List (Int × Int))} {s1 s2 : Nat → Bool} {m1 m2 : List Int} {f : Nat → Nat} {r : Nat}
theorem Q5 (hd : ∀ v, v < e1.length → dg e2 (f v) = dg e1 v) (hp : ∀ v i b j : Nat, v < e1.length → i < dg e1 v → pt e1 v i = ((b : Int), (j : Int)) → pt e2 (f v) i = (((f b : Nat) : Int), (j : Int))) (hs : Sym e1) (hsd : ∀ v, v < e1.length → s2 (f v) = s1 v) (hm : ∀ y, y < e1.length → gi m2 (f y) = gi m1 y) {w : Nat} (hw : w < e1.length) : prJ e2 s2 m2 r (f w) = prJ e1 s1 m1 r w := by
 unfold prJ;rw [hsd w hw, hm w hw, hd w hw];split
 ·have hq : ∀ j, j < dg e1 w → (decide (gi m2 (pt e2 (f w) j).1.toNat < 0) && decide ((pt e2 (f w) j).2 = (r : Int))) = (decide (gi m1 (pt e1 w j).1.toNat < 0) && decide ((pt e1 w j).2 = (r : Int))) := fun j hj => by
   obtain ⟨b, t, e, hb, -, -⟩ := hs w j hw hj;rw [hp w j b t hw hj e, e];simp only [Int.toNat_natCast, hm b hb]
  cases h : (List.range (dg e1 w)).find? fun j => decide (gi m1 (pt e1 w j).1.toNat < 0) && decide ((pt e1 w j).2 = (r : Int)) with
  | none =>
   rw [List.find?_eq_none] at h ⊢;intro j hj;rw [hq j (List.mem_range.1 hj)]; exact h j hj
  | some j =>
   obtain ⟨h1, h3, h4⟩ := List.find?_range_eq_some.1 h;rw [List.find?_range_eq_some];refine ⟨?_, h3, fun i hi => ?_⟩
   ·rw [hq j (List.mem_range.1 h3)]; exact h1
   ·rw [hq i (by have := List.mem_range.1 h3; omega)]; exact h4 i hi
 ·rfl
end
end
section
section
variable {e1 e2 : List (List (Int × Int))} {s1 s2 : Nat → Bool} {f : Nat → Nat}
theorem Ca (hd : ∀ v, v < e1.length → dg e2 (f v) = dg e1 v) (hp : ∀ v i b j : Nat, v < e1.length → i < dg e1 v → pt e1 v i = ((b : Int), (j : Int)) → pt e2 (f v) i = (((f b : Nat) : Int), (j : Int))) (hs : Sym e1) (hs2 : Sym e2) (hsd : ∀ v, v < e1.length → s2 (f v) = s1 v) (hf : ∀ v, v < e1.length → f v < e2.length)
 (h1 : ∀ v i, v < e1.length → i < dg e1 v → s1 (pt e1 v i).1.toNat ≠ s1 v) (h2 : ∀ v i, v < e2.length → i < dg e2 v → s2 (pt e2 v i).1.toNat ≠ s2 v) : ∀ r y, y < e1.length → gi (prM e2 s2 r) (f y) = gi (prM e1 s1 r) y
 | 0, y, hy => by
  have g1 := hf y hy;show gi (List.replicate e2.length (-1)) (f y) = gi (List.replicate e1.length (-1)) y;unfold gi; simp [hy, g1]
 | r + 1, y, hy => by
  have ih := Ca hd hp hs hs2 hsd hf h1 h2 r;have v1 := vx (r := r) hs (ta hs h1 r).len h1 e1.length (Nat.le_refl _);have v2 := vx (r := r) hs2 (ta hs2 h2 r).len h2 e2.length (Nat.le_refl _);have hJ : ∀ w, w < e1.length → prJ e2 s2 (prM e2 s2 r) r (f w) = prJ e1 s1 (prM e1 s1 r) r w := fun w hw => Q5 hd hp hs hsd ih hw;show gi (prT e2 s2 (prM e2 s2 r) r e2.length) (f y) = gi (prT e1 s1 (prM e1 s1 r) r e1.length) y
  cases hsy : s1 y with
  | true =>
   have hsy2 : s2 (f y) = true := by rw [hsd y hy, hsy]
   cases hj : prJ e1 s1 (prM e1 s1 r) r y with
   | some j => rw [v1.a1 y hy hsy j hy hj, v2.a1 (f y) (hf y hy) hsy2 j (hf y hy) (by rw [hJ y hy, hj])]
   | none => rw [v1.a2 y hy hsy fun _ => hj, v2.a2 (f y) (hf y hy) hsy2 fun _ => by rw [hJ y hy, hj], ih y hy]
  | false =>
   have hsy2 : s2 (f y) = false := by rw [hsd y hy, hsy]
   by_cases hx : ∃ x j, x < e1.length ∧ prJ e1 s1 (prM e1 s1 r) r x = some j ∧ (pt e1 x j).1 = (y : Int)
   ·obtain ⟨x, j, g1, g2, g3⟩ := hx;rw [v1.b1 y hy hsy x j g1 g2 g3];obtain ⟨-, -, g4, -, -⟩ := lb g2;obtain ⟨b, t, e, hb, ht, -⟩ := hs x j g1 g4;rw [e] at g3;obtain rfl : b = y := by have : (b : Int) = y := g3; omega
    exact v2.b1 (f b) (hf b hy) hsy2 (f x) j (hf x g1) (by rw [hJ x g1, g2]) (by rw [hp x j b t g1 g4 e])
   ·rw [v1.b2 y hy hsy fun x j g1 g2 g3 => hx ⟨x, j, g1, g2, g3⟩];rw [v2.b2 (f y) (hf y hy) hsy2 fun x' j' g1 g2 g3 => ?_, ih y hy];obtain ⟨-, -, g4, -, g5⟩ := lb g2;obtain ⟨b', t', e, hb, ht, e'⟩ := hs2 x' j' g1 g4;rw [e] at g3 g5;obtain rfl : b' = f y := by have : (b' : Int) = ((f y : Nat) : Int) := g3; omega
    obtain rfl : t' = r := by have : (t' : Int) = r := g5; omega
    rw [hd y hy] at ht;obtain ⟨b, t, e3, hb3, ht3, e4⟩ := hs y t' hy ht;have e5 := hp y t' b t hy ht e3;rw [e'] at e5;simp at e5;obtain ⟨e6, e7⟩ := e5;obtain rfl : x' = f b := by omega
    obtain rfl : j' = t := by omega
    exact hx ⟨b, j', hb3, by rw [← hJ b hb3, g2], by rw [e4]⟩
end
end
section
def br (ess : List (List (Int × Int))) : List (List (Int × Int)) := (ess.map fun es => es.map fun e => (e.1 + (ess.length : Int), e.2)) ++ ess
section
variable {ess : List (List (Int × Int))}
theorem d7 : (br ess).length = ess.length + ess.length := by simp [br]
theorem C3 {v : Nat} (hv : v < ess.length) : gl (br ess) v = (gl ess v).map fun e => (e.1 + (ess.length : Int), e.2) := by
 unfold gl br;simp [List.getD_eq_getElem?_getD, List.getElem?_append_left, hv]
theorem C2 {v : Nat} : gl (br ess) (v + ess.length) = gl ess v := by
 unfold gl br;rw [List.getD_eq_getElem?_getD, List.getElem?_append_right (by simp), List.getD_eq_getElem?_getD];simp
theorem ez {v : Nat} (hv : v < ess.length) : dg (br ess) v = dg ess v := by unfold dg; rw [C3 hv, List.length_map]
theorem ey {v : Nat} : dg (br ess) (v + ess.length) = dg ess v := by unfold dg; rw [C2]
theorem ir {v i : Nat} (hv : v < ess.length) (hi : i < dg ess v) : pt (br ess) v i = ((pt ess v i).1 + (ess.length : Int), (pt ess v i).2) := by
 unfold pt;have hi' : i < (gl ess v).length := hi;rw [C3 hv, gu (by rw [List.length_map]; exact hi'), gu hi', List.getElem_map]
theorem jg {v i : Nat} : pt (br ess) (v + ess.length) i = pt ess v i := by unfold pt; rw [C2]
theorem Sym.dbl (hs : Sym ess) : Sym (br ess) := fun a i ha hi => by
 rw [d7] at ha ⊢
 by_cases h : a < ess.length
 ·rw [ez h] at hi;obtain ⟨b, j, e, hb, hj, e2⟩ := hs a i h hi;refine ⟨b + ess.length, j, ?_, by omega, by rw [ey]; exact hj, by rw [jg]; exact e2⟩;rw [ir h hi, e];simp
 ·obtain ⟨v, rfl⟩ : ∃ v, a = v + ess.length := ⟨a - ess.length, by omega⟩;rw [ey] at hi;obtain ⟨b, j, e, hb, hj, e2⟩ := hs v i (by omega) hi;refine ⟨b, j, by rw [jg]; exact e, by omega, by rw [ez hb]; exact hj, ?_⟩;rw [ir hb hj, e2];simp
def sdD (k : Nat) (x : Nat) : Bool := decide (k ≤ x)
theorem ik (hs : Sym ess) : ∀ v i, v < (br ess).length → i < dg (br ess) v → sdD ess.length (pt (br ess) v i).1.toNat ≠ sdD ess.length v := fun a i ha hi => by
 rw [d7] at ha;unfold sdD
 by_cases h : a < ess.length
 ·rw [ez h] at hi;obtain ⟨b, j, e, hb, hj, e2⟩ := hs a i h hi;rw [ir h hi, e];have h1 : ((b : Int) + (ess.length : Int)).toNat = b + ess.length := by omega
  have h2 : ¬ ess.length ≤ a := by omega
  simp [h1, h2]
 ·obtain ⟨v, rfl⟩ : ∃ v, a = v + ess.length := ⟨a - ess.length, by omega⟩;rw [ey] at hi;obtain ⟨b, j, e, hb, hj, e2⟩ := hs v i (by omega) hi;rw [jg, e];have h2 : ¬ ess.length ≤ b := by omega
  simp [h2]
end
end
section
theorem U8 {ess : List (List (Int × Int))} {m : List Int} {K : Nat → Bool} (hs : Sym ess) (hm : MatN (br ess) m) (hK : ∀ v i w : Nat, v < ess.length → i < dg ess v → (pt ess v i).1 = (w : Int) → K v = true ∨ K w = true) :
 ct (fun v => decide (0 ≤ gi m v) || decide (0 ≤ gi m (v + ess.length))) ess.length ≤ 3 * ct K ess.length := by
 have hl := d7 (ess := ess);have hinv := Ok hs.dbl hm
 have hed : ∀ v, v < ess.length → tp (br ess) m v ≠ v → ∃ i b : Nat, i < dg ess v ∧ (pt ess v i).1 = (b : Int) ∧ tp (br ess) m v = b + ess.length := fun v hv hne => by
  obtain ⟨i, hi, he⟩ := Aw hm (by omega) ((wg hm (by omega)).1 hne);rw [ez hv] at hi;obtain ⟨b, j, e, hb, -, -⟩ := hs v i hv hi;rw [ir hv hi, e] at he;refine ⟨i, b, hi, by rw [e], ?_⟩;have h1 : (b : Int) + (ess.length : Int) = (tp (br ess) m v : Nat) := he;omega
 have h1 := Lj (p := tp (br ess) m) (n := ess.length) (K := K) (fun v hv => by have := hinv v (by omega); exact ⟨by omega, this.2⟩)
  (fun v hv hne => by obtain ⟨i, b, -, -, h⟩ := hed v hv hne; omega)
  (fun v hv hne => by
    obtain ⟨i, hi, he⟩ := Aw hm (by omega) ((wg hm (by omega)).1 hne);rw [ey] at hi;obtain ⟨b, j, e, hb, -, -⟩ := hs v i hv hi;rw [jg, e] at he;have h2 : (b : Int) = (tp (br ess) m (v + ess.length) : Nat) := he
    omega)
  (fun v hv hne => by
    obtain ⟨i, b, hi, he, h⟩ := hed v hv hne;rw [h, Nat.add_sub_cancel]
    exact hK v i b hv hi he)
 refine Nat.le_trans (Nat.le_of_eq (sa _ fun v hv => ?_)) h1;rw [decide_eq_decide.2 (wg hm (by omega : v < (br ess).length)), decide_eq_decide.2 (wg hm (by omega : v + ess.length < (br ess).length))]
end
section
section
variable {ess : List (List (Int × Int))}
theorem E9 (hs : Sym ess) (r y : Nat) (hy : y < (br ess).length) : gi (prM (br (br ess)) (sdD (br ess).length) r) (y + ess.length) = gi (prM (br ess) (sdD ess.length) r) y := by
 have hl := d7 (ess := ess);have hl2 := d7 (ess := br ess);refine Ca (f := fun y => y + ess.length) (fun v hv => ?_) (fun v i b j hv hi he => ?_) hs.dbl hs.dbl.dbl (fun v hv => ?_) (fun v hv => by omega) (ik hs) (ik hs.dbl) r y hy
 ·by_cases h : v < ess.length
  ·rw [ez (by omega), ey, ez h]
  ·obtain ⟨w, rfl⟩ : ∃ w, v = w + ess.length := ⟨v - ess.length, by omega⟩;have h1 : w + ess.length + ess.length = w + (br ess).length := by omega
   show dg (br (br ess)) (w + ess.length + ess.length) = _;rw [h1, ey, ey, ez (by omega)]
 ·by_cases h : v < ess.length
  ·rw [ez h] at hi;rw [ir h hi] at he;have h2 : i < dg (br ess) (v + ess.length) := by rw [ey]; exact hi
   rw [ir (by omega) h2, jg];simp at he;obtain ⟨g1, g2⟩ := he;rw [g2];simp;omega
  ·obtain ⟨w, rfl⟩ : ∃ w, v = w + ess.length := ⟨v - ess.length, by omega⟩;have h1 : w + ess.length + ess.length = w + (br ess).length := by omega
   rw [ey] at hi;rw [jg] at he;show pt (br (br ess)) (w + ess.length + ess.length) i = _;rw [h1, jg, ir (by omega) hi, he];simp
 ·unfold sdD;rw [decide_eq_decide]; omega
def yw (k y : Nat) : Nat := if y < k then y else y + (k + k)
theorem Fa (hs : Sym ess) (r y : Nat) (hy : y < (br ess).length) : gi (prM (br (br ess)) (sdD (br ess).length) r) (yw ess.length y) = gi (prM (br ess) (sdD ess.length) r) y := by
 have hl := d7 (ess := ess);have hl2 := d7 (ess := br ess);refine Ca (f := yw ess.length) (fun v hv => ?_) (fun v i b j hv hi he => ?_) hs.dbl hs.dbl.dbl (fun v hv => ?_) (fun v hv => by unfold yw; split <;> omega) (ik hs) (ik hs.dbl) r y hy
 ·unfold yw;split
  ·rw [ez (by omega)]
  ·rw [← hl, ey]
 ·by_cases h : v < ess.length
  ·have hi' := hi;rw [ez h] at hi';have h3 : yw ess.length v = v := if_pos h;rw [h3, ir (by omega) hi, he];rw [ir h hi'] at he;obtain ⟨b', t, e, hb, -, -⟩ := hs v i h hi';rw [e] at he;simp at he;have h4 : yw ess.length b = b + (ess.length + ess.length) := if_neg (by omega);rw [h4, hl];simp
  ·obtain ⟨w, rfl⟩ : ∃ w, v = w + ess.length := ⟨v - ess.length, by omega⟩;have h3 : yw ess.length (w + ess.length) = w + ess.length + (br ess).length := by rw [hl]; exact if_neg h
   rw [h3, jg, he];rw [ey] at hi;rw [jg] at he;obtain ⟨b', t, e, hb, -, -⟩ := hs w i (by omega) hi;rw [e] at he;simp at he;have h4 : yw ess.length b = b := if_pos (by omega);rw [h4]
 ·unfold sdD yw;rw [decide_eq_decide];split <;> omega
end
end
end Go.Proofs.YtolpiolnhgpjjaaGreat
