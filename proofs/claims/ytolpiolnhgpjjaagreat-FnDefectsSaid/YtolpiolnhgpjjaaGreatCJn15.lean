/- Parts of the proof. -/
import Derived.Test.YtolpiolnhgpjjaaGreatCJn7
import Derived.ProofKit
import Derived.Deep.SlicePairs
import Derived.Lib.SmallJoins
set_option linter.unusedSimpArgs false
set_option linter.unusedVariables false
namespace Go.Proofs.YtolpiolnhgpjjaaGreat
section
open Go.ChangeShapes Go.WideShapes Go.ChangeAt Go.RowKit Go.Deep Go.Joins
theorem wg {H : Type} {enc : TypeId × Value → H} {P : Program} {w : World} {base : Nat} {spare : Nat → Bool} {held : Bool} {t e : TypeId} {fuel : Nat} {cs : List Value} {x : DataW H × List MemPlace} (ht : P.underlying t = some (.slice e)) (he : P.underlying e = some (.int .u8)) (hc : P.cellsOf e = 1)
 (h : DataW.trod enc P w base spare held fuel t cs = some x) : ∃ v L, cs = [v] ∧ En w v L := by
 rcases open_slice1 ht hc h with ⟨rfl, _⟩ | ⟨a, len, cap, m, n, V, D, Pl, rfl, hb, hl, hm, hmm, _, hx⟩
 ·exact ⟨_, 0, rfl, none, 0, rfl, by omega, ⟨by omega, by unfold maxLen; omega⟩, fun h => absurd h (Nat.lt_irrefl _)⟩
 ·have hlm : len ≤ m := by rw [hmm]; split <;> omega
  have hz : ∀ i, i < len → ∃ z : Int, V i = .int .u8 z ∧ 0 ≤ z ∧ z ≤ 255 := fun i hi => by
   obtain ⟨_, h2⟩ := hx i (by omega);obtain ⟨q, e1, _, hw⟩ := DataW.trod_int he h2;simp only [List.cons.injEq, and_true] at e1;simp only [Lit.wf, Bool.and_eq_true, decide_eq_true_eq] at hw;exact ⟨q, e1, hw.1, hw.2⟩
  refine ⟨_, len, rfl, some a, cap, rfl, by have := hl; unfold maxLen at hm; omega, ⟨hl, hm⟩, fun hp => ?_⟩;have h0 := (hx 0 (by omega)).1;obtain ⟨b, off, sp⟩ := a;have hsp : sp = none := by simpa [Addr.add] using World.cell?_spot h0
  subst hsp;refine ⟨b, off, rfl, fun j hj => ?_⟩;have := (hx j (by omega)).1;rw [add_plain] at this;obtain ⟨z, hz1, hz2, hz3⟩ := hz j hj;exact ⟨z, hz2, hz3, by rw [this, hz1]⟩
end
section
def ct (b : Nat → Bool) : Nat → Nat
 | 0 => 0
 | n + 1 => ct b n + if b n = true then 1 else 0
def sm (f : Nat → Nat) : Nat → Nat
 | 0 => 0
 | n + 1 => sm f n + f n
theorem bg {f g : Nat → Nat} : ∀ n, (∀ i, i < n → f i = g i) → sm f n = sm g n
 | 0, _ => rfl
 | n + 1, h => by rw [sm, sm, bg n fun i hi => h i (by omega), h n (by omega)]
theorem jo : ∀ n, sm (fun _ => 0) n = 0
 | 0 => rfl
 | n + 1 => by rw [sm, jo n]
theorem rq (f g : Nat → Nat) : ∀ n, sm (fun i => f i + g i) n = sm f n + sm g n
 | 0 => rfl
 | n + 1 => by rw [sm, sm, sm, rq f g n]; omega
theorem pw (f : Nat → Nat → Nat) (m : Nat) : ∀ n, sm (fun i => sm (f i) m) n = sm (fun j => sm (fun i => f i j) n) m
 | 0 => by show 0 = sm (fun _ => 0) m; rw [jo]
 | n + 1 => by
  rw [sm, pw f m n, ← rq];rfl
theorem oo {a c : Nat} : ∀ n, sm (fun i => if i = a then c else 0) n = if a < n then c else 0
 | 0 => by simp [sm]
 | n + 1 => by
  rw [sm, oo n]
  by_cases h : n = a
  ·subst h; simp
  ·rw [if_neg h]
   by_cases h2 : a < n
   ·rw [if_pos h2, if_pos (by omega), Nat.add_zero]
   ·rw [if_neg h2, if_neg (by omega)]
section
variable {p q : Nat → Nat} {n : Nat}
end
end
section
theorem ud (b : Nat → Bool) (n : Nat) : ∀ m, ct b (n + m) = ct b n + ct (fun i => b (i + n)) m
 | 0 => rfl
 | m + 1 => by
  rw [← Nat.add_assoc, ct, ct, ud b n m, Nat.add_comm n m];omega
theorem M5 {b : Nat → Bool} : ∀ n, (∀ i, i < n → b i = false) → ct b n = 0
 | 0, _ => rfl
 | n + 1, h => by rw [ct, M5 n fun i hi => h i (by omega), h n (by omega)]; rfl
theorem xy {b c : Nat → Bool} : ∀ n, (∀ i, i < n → b i = c i) → ct b n = ct c n
 | 0, _ => rfl
 | n + 1, h => by rw [ct, ct, xy n fun i hi => h i (by omega), h n (by omega)]
section
variable {p : Nat → Nat} {n : Nat} {K : Nat → Bool}
end
end
section
theorem Az {f g : Nat → Nat} : ∀ n, (∀ i, i < n → f i ≤ g i) → sm f n ≤ sm g n
 | 0, _ => Nat.le_refl _
 | n + 1, h => by
  have := Az n fun i hi => h i (by omega);have := h n (by omega);rw [sm, sm]; omega
theorem vw (c : Nat) : ∀ n, sm (fun _ => c) n = n * c
 | 0 => by simp [sm]
 | n + 1 => by rw [sm, vw c n, Nat.succ_mul]
def smC (a : Nat → Nat → Nat) (l : Nat → Int) (n u : Nat) (x : Int) : Nat := sm (fun w => if l w = x then a u w else 0) n
def upC (a : Nat → Nat → Nat) (l : Nat → Int) (n : Nat) : Nat := sm (fun v => sm (fun w => if v < w ∧ l v = l w then a v w else 0) n) n
def upA (a : Nat → Nat → Nat) (n : Nat) : Nat := sm (fun v => sm (fun w => if v < w then a v w else 0) n) n
def upR (a : Nat → Nat → Nat) (l : Nat → Int) (n u : Nat) : Nat := sm (fun v => sm (fun w => if v ≠ u ∧ w ≠ u ∧ v < w ∧ l v = l w then a v w else 0) n) n
section
variable {a : Nat → Nat → Nat} {l l' : Nat → Int} {n u : Nat}
theorem za (hs : ∀ v w, a v w = a w v) (h0 : ∀ v, a v v = 0) (hu : u < n) : upC a l n = upR a l n u + smC a l n u (l u) := by
 have h1 : ∀ v, v < n → sm (fun w => if v < w ∧ l v = l w then a v w else 0) n = sm (fun w => if v ≠ u ∧ w ≠ u ∧ v < w ∧ l v = l w then a v w else 0) n + ((if v = u then sm (fun w => if u < w ∧ l w = l u then a u w else 0) n else 0) + if v < u ∧ l v = l u then a u v else 0) := fun v hv => by
  by_cases hvu : v = u
  ·subst hvu;rw [if_pos rfl, if_neg (by omega), bg (f := fun w => if v ≠ v ∧ w ≠ v ∧ v < w ∧ l v = l w then a v w else 0) (g := fun _ => 0) n (fun w _ => if_neg (fun h => h.1 rfl)), jo, Nat.zero_add, Nat.add_zero];refine bg n fun w _ => ?_
   by_cases h : v < w ∧ l v = l w
   ·rw [if_pos h, if_pos ⟨h.1, h.2.symm⟩]
   ·rw [if_neg h, if_neg fun h2 => h ⟨h2.1, h2.2.symm⟩]
  ·rw [if_neg hvu, Nat.zero_add]
   have h2 : sm (fun w => if w = u then (if v < u ∧ l v = l u then a u v else 0) else 0) n = if v < u ∧ l v = l u then a u v else 0 := by rw [oo, if_pos hu]
   rw [← h2, ← rq];refine bg n fun w _ => ?_
   by_cases hw : w = u
   ·subst hw;have h3 : ¬ (v ≠ w ∧ w ≠ w ∧ v < w ∧ l v = l w) := fun h => h.2.1 rfl;rw [if_neg h3, if_pos rfl, Nat.zero_add, hs]
   ·rw [if_neg hw, Nat.add_zero]
    by_cases h : v < w ∧ l v = l w
    ·rw [if_pos h, if_pos ⟨hvu, hw, h⟩]
    ·rw [if_neg h, if_neg fun h2 => h h2.2.2]
 rw [upC, bg n h1, rq, rq, oo, if_pos hu, ← rq];refine congrArg _ (bg n fun w _ => ?_)
 rcases Nat.lt_trichotomy u w with h | h | h
 ·rw [if_neg (c := w < u ∧ l w = l u) (fun h2 => by omega), Nat.add_zero]
  by_cases hl : l w = l u
  ·rw [if_pos ⟨h, hl⟩, if_pos hl]
  ·rw [if_neg fun h2 => hl h2.2, if_neg hl]
 ·subst h;rw [h0];simp
 ·rw [if_neg (c := u < w ∧ l w = l u) (fun h2 => by omega), Nat.zero_add]
  by_cases hl : l w = l u
  ·rw [if_pos ⟨h, hl⟩, if_pos hl]
  ·rw [if_neg fun h2 => hl h2.2, if_neg hl]
theorem Ks (hs : ∀ v w, a v w = a w v) (h0 : ∀ v, a v v = 0) (hu : u < n) (hl : ∀ v, v ≠ u → l' v = l v) (hlt : smC a l n u (l' u) < smC a l n u (l u)) : upC a l' n + 1 ≤ upC a l n := by
 have g1 := za (l := l) hs h0 hu;have g2 := za (l := l') hs h0 hu
 have h1 : upR a l' n u = upR a l n u := bg n fun v _ => bg n fun w _ => by
  by_cases hv : v = u
  ·rw [if_neg (fun h => h.1 hv), if_neg (fun h => h.1 hv)]
  ·by_cases hw : w = u
   ·rw [if_neg (fun h => h.2.1 hw), if_neg (fun h => h.2.1 hw)]
   ·rw [hl v hv, hl w hw]
 have h2 : smC a l' n u (l' u) = smC a l n u (l' u) := bg n fun w _ => by
  by_cases hw : w = u
  ·subst hw; rw [h0]; split <;> split <;> rfl
  ·rw [hl w hw]
 omega
theorem K8 {k : Nat} {c : Int} (hk : 0 < k) (hc : ∀ x : Nat, x < k → smC a l n u c ≤ smC a l n u x) : smC a l n u c ≤ sm (a u) n / k := by
 rw [Nat.le_div_iff_mul_le hk, Nat.mul_comm]
 have h1 : k * smC a l n u c ≤ sm (fun x => smC a l n u (x : Nat)) k := by
  rw [← vw]; exact Az k fun x hx => hc x hx
 refine Nat.le_trans h1 ?_;unfold smC;rw [pw (fun x w => if l w = ((x : Nat) : Int) then a u w else 0) n k];refine Az n fun w _ => ?_
 by_cases h : 0 ≤ l w
 ·have h2 : ∀ x, x < k → (if l w = ((x : Nat) : Int) then a u w else 0) = if x = (l w).toNat then a u w else 0 := fun x _ => by
   by_cases h3 : l w = x
   ·rw [if_pos h3, if_pos (by omega)]
   ·rw [if_neg h3, if_neg (by omega)]
  rw [bg k h2, oo];split <;> omega
 ·have h2 : ∀ x, x < k → (if l w = ((x : Nat) : Int) then a u w else 0) = 0 := fun x _ => if_neg (by omega);rw [bg k h2, jo]; omega
theorem Gz (hc : ∀ v w, v < n → w < n → l v = l w) : upC a l n = upA a n := bg n fun v hv => bg n fun w hw => by
 by_cases h : v < w
 ·rw [if_pos ⟨h, hc v w hv hw⟩, if_pos h]
 ·rw [if_neg (fun h2 => h h2.1), if_neg h]
end
end
section
def adC (ess : List (List (Int × Int))) (v w : Nat) : Nat := sm (fun i => if (pt ess v i).1 = (w : Int) then 1 else 0) (dg ess v)
section
variable {ess : List (List (Int × Int))}
theorem Ii (hs : Sym ess) {v w : Nat} (hw : ¬ w < ess.length) : adC ess v w = 0 := by
 unfold adC
 by_cases hv : v < ess.length
 ·rw [bg (g := fun _ => 0) _ fun i hi => ?_, jo];obtain ⟨b, j, e, hb, -, -⟩ := hs v i hv hi;rw [e];exact if_neg (by simp; omega)
 ·rw [pi hv]; rfl
theorem Ps (hs : Sym ess) (v w : Nat) : adC ess v w = adC ess w v := by
 by_cases hv : v < ess.length
 ·by_cases hw : w < ess.length
  ·have h1 : ∀ v w, v < ess.length → adC ess v w = sm (fun i => sm (fun j => if pt ess v i = ((w : Int), (j : Int)) then 1 else 0) (dg ess w)) (dg ess v) := fun v w hv => bg _ fun i hi => by
    obtain ⟨b, j, e, hb, hj, -⟩ := hs v i hv hi;rw [e]
    by_cases h : b = w
    ·subst h;rw [if_pos rfl]
     have h2 : ∀ j', j' < dg ess b → (if ((b : Int), (j : Int)) = ((b : Int), (j' : Int)) then 1 else 0) = if j' = j then 1 else 0 := fun j' _ => by
      by_cases h3 : j' = j
      ·subst h3; rw [if_pos rfl, if_pos rfl]
      ·rw [if_neg h3, if_neg (by simp; omega)]
     rw [bg _ h2, oo, if_pos hj]
    ·rw [if_neg (by simp; omega), bg (g := fun _ => 0) _ fun j' _ => if_neg (by simp; omega), jo]
   rw [h1 v w hv, h1 w v hw, pw];refine bg _ fun j hj => bg _ fun i hi => ?_
   by_cases h : pt ess v i = ((w : Int), (j : Int))
   ·obtain ⟨b, j', e, -, -, e2⟩ := hs v i hv hi;rw [e] at h;simp at h;obtain ⟨h3, h4⟩ := h;obtain rfl : b = w := by omega
    obtain rfl : j' = j := by omega
    rw [if_pos e, if_pos e2]
   ·by_cases h2 : pt ess w j = ((v : Int), (i : Int))
    ·obtain ⟨b, i', e, -, -, e2⟩ := hs w j hw hj;rw [e] at h2;simp at h2;obtain ⟨h3, h4⟩ := h2;obtain rfl : b = v := by omega
     obtain rfl : i' = i := by omega
     exact absurd e2 h
    ·rw [if_neg h, if_neg h2]
  ·rw [Ii hs hw]; unfold adC; rw [pi hw]; rfl
 ·rw [Ii hs (v := w) hv]; unfold adC; rw [pi hv]; rfl
theorem At (hs : Sym ess) {v : Nat} (hv : v < ess.length) (l : Nat → Int) (x : Int) : smC (adC ess) l ess.length v x = sm (fun i => if l (pt ess v i).1.toNat = x then 1 else 0) (dg ess v) := by
 have h1 : ∀ w, w < ess.length → (if l w = x then adC ess v w else 0) = sm (fun i => if (pt ess v i).1 = (w : Int) ∧ l w = x then 1 else 0) (dg ess v) := fun w _ => by
  by_cases h : l w = x
  ·rw [if_pos h];refine bg _ fun i _ => ?_
   by_cases h2 : (pt ess v i).1 = (w : Int)
   ·rw [if_pos h2, if_pos ⟨h2, h⟩]
   ·rw [if_neg h2, if_neg fun h3 => h2 h3.1]
  ·rw [if_neg h, bg (g := fun _ => 0) _ fun i _ => if_neg fun h3 => h h3.2, jo]
 unfold smC;rw [bg _ h1, pw];refine bg _ fun i hi => ?_;obtain ⟨b, j, e, hb, -, -⟩ := hs v i hv hi;rw [e]
 have h2 : ∀ w, w < ess.length → (if ((b : Int) = (w : Int) ∧ l w = x) then 1 else 0) = if w = b then (if l b = x then 1 else 0) else 0 := fun w _ => by
  by_cases h : w = b
  ·subst h; simp
  ·rw [if_neg h, if_neg (by omega)]
 show sm (fun w => if ((b : Int) = (w : Int) ∧ l w = x) then 1 else 0) ess.length = _;rw [bg _ h2, oo, if_pos hb];simp
theorem Pt (hs : Sym ess) {v : Nat} (hv : v < ess.length) : sm (adC ess v) ess.length = dg ess v := by
 have h := At hs hv (fun _ => 0) 0;have h1 : smC (adC ess) (fun _ => 0) ess.length v 0 = sm (adC ess v) ess.length := bg _ fun w _ => if_pos rfl;have h2 : sm (fun i => if (fun _ : Nat => (0 : Int)) (pt ess v i).1.toNat = 0 then 1 else 0) (dg ess v) = sm (fun _ => 1) (dg ess v) := bg _ fun i _ => if_pos rfl;rw [h1, h2, vw] at h;omega
end
end
end Go.Proofs.YtolpiolnhgpjjaaGreat
