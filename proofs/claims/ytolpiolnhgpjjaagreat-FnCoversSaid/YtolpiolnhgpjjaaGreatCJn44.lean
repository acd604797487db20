/- Parts of the proof. -/
import Derived.Test.YtolpiolnhgpjjaaGreatCJn39
import Derived.Test.YtolpiolnhgpjjaaGreatCJn26
import Derived.Test.YtolpiolnhgpjjaaGreatCJn28
import Derived.Test.YtolpiolnhgpjjaaGreatCJn21
import Derived.Test.YtolpiolnhgpjjaaGreatCShelf
import Derived.Test.YtolpiolnhgpjjaaGreatCJn31
import Derived.Test.YtolpiolnhgpjjaaGreatCDt
import Derived.Test.YtolpiolnhgpjjaaGreatCMtr2
import Derived.Test.YtolpiolnhgpjjaaGreatCJn6
import Derived.Test.YtolpiolnhgpjjaaGreatCDix
import Derived.Test.YtolpiolnhgpjjaaGreatCJn15
import Derived.Test.YtolpiolnhgpjjaaGreatCJn33
import Derived.Test.YtolpiolnhgpjjaaGreatCPwq
import Derived.Test.YtolpiolnhgpjjaaGreatCJn8
import Derived.Lib.SlicesCompact
import Derived.Test.YtolpiolnhgpjjaaGreatCJn43
import Derived.Test.YtolpiolnhgpjjaaGreatCJn22
import Derived.Test.YtolpiolnhgpjjaaGreatCJn24
import Derived.Test.YtolpiolnhgpjjaaGreatCDcu
import Derived.Test.YtolpiolnhgpjjaaGreatCJn17
import Derived.Test.YtolpiolnhgpjjaaGreatCNw1
import Derived.Test.YtolpiolnhgpjjaaGreatCNw3
import Derived.Test.YtolpiolnhgpjjaaGreatCJn29
import Derived.StillTailTactics
set_option linter.unusedSimpArgs false
set_option linter.unusedVariables false
namespace Go.Proofs.YtolpiolnhgpjjaaGreat
section
open Go Go.RowKit Go.Sort
theorem yg {P : Nat → Prop} (k : Nat) (h : P k) : ∃ m, m ≤ k ∧ P m ∧ ∀ j, j < m → ¬ P j := by
 induction k using Nat.strongRecOn with
 | ind k ih =>
  by_cases hj : ∃ j, j < k ∧ P j
  ·obtain ⟨j, h1, h2⟩ := hj;obtain ⟨m, g1, g2, g3⟩ := ih j h1 h2;exact ⟨m, by omega, g2, g3⟩
  ·exact ⟨k, Nat.le_refl k, h, fun j h1 h2 => hj ⟨j, h1, h2⟩⟩
theorem se : ∀ n, bin n n = 1
 | 0 => rfl
 | n + 1 => by rw [bin, se n, ou (Nat.lt_succ_self n)]
theorem D0 : ∀ d x, sbs d x d 0 = (List.range d).map fun i => ((x + i : Nat) : Int)
 | 0, x => rfl
 | d + 1, x => by
  rw [sbs, if_pos (by rw [se]; omega), D0 d (x + 1), List.range_succ_eq_map, List.map_cons, List.map_map];exact List.cons_eq_cons.2 ⟨rfl, List.map_congr_left fun i _ => by show ((x + 1 + i : Nat) : Int) = ((x + (i + 1) : Nat) : Int); omega⟩
theorem Dz (n : Nat) : sbs n 0 n 0 = ef n := by
 rw [D0]; unfold ef;exact List.map_congr_left fun i _ => by rw [Nat.zero_add]
theorem K3 {good : List Int → Bool} {n : Nat} (h : good (ef n) = true) : ∃ k r, k ≤ n ∧ LeastS good n k r := by
 obtain ⟨k, h1, ⟨r0, h2, h3⟩, h4⟩ := yg (P := fun k => ∃ r, r < bin n k ∧ good (sbs n 0 k r) = true) n ⟨0, by rw [se]; exact Nat.one_pos, by rw [Dz]; exact h⟩;obtain ⟨r, g1, g2, g3⟩ := yg (P := fun r => good (sbs n 0 k r) = true) r0 h3;refine ⟨k, r, h1, by omega, g2, fun r' hr => ?_, fun k' r' hk hr => ?_⟩
 ·have := g3 r' hr;simpa using this
 ·cases hg : good (sbs n 0 k' r') with
  | false => rfl
  | true => exact absurd ⟨r', hr, hg⟩ (h4 k' hk)
section
variable {N : Net}
end
end
section
def chX : Nat → Nat → Nat → List Int
 | 0, _, _ => []
 | d + 1, x, c => if c.testBit d = true then (x : Int) :: chX d (x + 1) c else chX d (x + 1) c
theorem sb : ∀ (d x : Nat) (c : Nat), ∀ y ∈ chX d x c, (x : Int) ≤ y ∧ y < ((x + d : Nat) : Int)
 | 0, x, c, y, hy => absurd hy List.not_mem_nil
 | d + 1, x, c, y, hy => by
  rw [chX] at hy
  have key : ∀ z ∈ chX d (x + 1) c, (x : Int) < z ∧ z < ((x + (d + 1) : Nat) : Int) := fun z hz => by
   have := sb d (x + 1) c z hz;omega
  split at hy
  ·rcases List.mem_cons.1 hy with rfl | hy
   ·omega
   ·have := key y hy; omega
  ·have := key y hy; omega
theorem wm : ∀ (d x : Nat) (c : Nat), (chX d x c).Pairwise (· < ·)
 | 0, x, c => List.Pairwise.nil
 | d + 1, x, c => by
  rw [chX];split
  ·refine List.Pairwise.cons (fun y hy => ?_) (wm d (x + 1) c);have := sb d (x + 1) c y hy;omega
  ·exact wm d (x + 1) c
theorem Bs : ∀ (d x : Nat) {c c' : Nat}, (∀ i, i < d → c.testBit i = c'.testBit i) → chX d x c = chX d x c'
 | 0, x, c, c', _ => rfl
 | d + 1, x, c, c', h => by
  rw [chX, chX, h d (Nat.lt_succ_self d), Bs d (x + 1) fun i hi => h i (by omega)]
theorem Fj : ∀ (d x : Nat) {c c' : Nat}, chX d x c = chX d x c' → ∀ i, i < d → c.testBit i = c'.testBit i
 | 0, x, c, c', _, i, hi => absurd hi (Nat.not_lt_zero i)
 | d + 1, x, c, c', h, i, hi => by
  have hno : ∀ c, (x : Int) ∉ chX d (x + 1) c := fun c hm => by
   have := sb d (x + 1) c _ hm;omega
  have hd : c.testBit d = c'.testBit d ∧ chX d (x + 1) c = chX d (x + 1) c' := by
   rw [chX, chX] at h;cases h1 : c.testBit d <;> cases h2 : c'.testBit d <;> simp only [h1, h2, Bool.false_eq_true, if_false, if_true] at h
   ·exact ⟨rfl, h⟩
   ·exact absurd (by rw [h]; exact List.mem_cons_self) (hno c)
   ·exact absurd (by rw [← h]; exact List.mem_cons_self) (hno c')
   ·exact ⟨rfl, (List.cons_eq_cons.1 h).2⟩
  by_cases hid : i = d
  ·rw [hid]; exact hd.1
  ·exact Fj d (x + 1) hd.2 i (by omega)
theorem R5 {d x c c' : Nat} (hc : c < 2 ^ d) (hc' : c' < 2 ^ d) (h : chX d x c = chX d x c') : c = c' := by
 refine Nat.eq_of_testBit_eq fun i => ?_
 by_cases hi : i < d
 ·exact Fj d x h i hi
 ·have h1 : 2 ^ d ≤ 2 ^ i := Nat.pow_le_pow_right (by decide) (by omega);rw [Nat.testBit_lt_two_pow (by omega), Nat.testBit_lt_two_pow (by omega)]
def nsb : Nat → Nat → Nat → Nat
 | _, 0, _ => 0
 | 0, _ + 1, _ => 0
 | d + 1, k + 1, r => if r < bin d k then 2 ^ d + nsb d k r else nsb d (k + 1) (r - bin d k)
theorem Nh (d r : Nat) : nsb d 0 r = 0 := by cases d <;> rfl
theorem Fh : ∀ d x, chX d x 0 = []
 | 0, x => rfl
 | d + 1, x => by rw [chX, Nat.zero_testBit, if_neg (by decide), Fh d (x + 1)]
theorem xt : ∀ (d x k r : Nat), r < bin d k → nsb d k r < 2 ^ d ∧ chX d x (nsb d k r) = sbs d x k r
 | d, x, 0, r, _ => by rw [Nh, qt, Fh]; exact ⟨Nat.two_pow_pos d, rfl⟩
 | 0, x, k + 1, r, h => absurd h (Nat.not_lt_zero r)
 | d + 1, x, k + 1, r, h => by
  rw [nsb, sbs];rw [bin] at h;have hp : 2 ^ (d + 1) = 2 ^ d + 2 ^ d := by rw [Nat.pow_succ]; omega
  split
  ·rename_i h1
   obtain ⟨g1, g2⟩ := xt d (x + 1) k r h1;refine ⟨by omega, ?_⟩;rw [chX, if_pos (by rw [Nat.testBit_two_pow_add_eq, Nat.testBit_lt_two_pow g1]; rfl)];rw [Bs d (x + 1) (c' := nsb d k r) fun i hi => Nat.testBit_two_pow_add_gt hi _, g2]
  ·rename_i h1
   obtain ⟨g1, g2⟩ := xt d (x + 1) (k + 1) (r - bin d k) (by omega);refine ⟨by omega, ?_⟩;rw [chX, if_neg (by rw [Nat.testBit_lt_two_pow g1]; decide), g2]
theorem xu : ∀ (d k r r' : Nat), r < r' → r' < bin d k → nsb d k r' < nsb d k r
 | d, 0, r, r', h, h' => by rw [n6] at h'; omega
 | 0, k + 1, r, r', h, h' => absurd h' (Nat.not_lt_zero r')
 | d + 1, k + 1, r, r', h, h' => by
  rw [nsb, nsb];rw [bin] at h'
  by_cases h2 : r' < bin d k
  ·rw [if_pos h2, if_pos (by omega)];have := xu d k r r' h h2;omega
  ·rw [if_neg h2];have h3 := (xt d 0 (k + 1) (r' - bin d k) (by omega)).1
   by_cases h1 : r < bin d k
   ·rw [if_pos h1]; omega
   ·rw [if_neg h1];exact xu d (k + 1) _ _ (by omega) (by omega)
def LcI (good : List Int → Bool) (n : Nat) (best : List Int) (found : Bool) (b : Nat) : Prop :=
 match found with
 | false => best = [] ∧ ∀ c, b ≤ c → c < 2 ^ n → good (chX n 0 c) = false
 | true => ∃ c0, b ≤ c0 ∧ c0 < 2 ^ n ∧ best = chX n 0 c0 ∧ good best = true ∧ ∀ c, b ≤ c → c < 2 ^ n → good (chX n 0 c) = true → best.length ≤ (chX n 0 c).length ∧ (c0 < c → best.length < (chX n 0 c).length)
theorem LcI.start (good : List Int → Bool) (n : Nat) : LcI good n [] false (2 ^ n) := ⟨rfl, fun c h1 h2 => by omega⟩
theorem LcI.take {good : List Int → Bool} {n b : Nat} {best : List Int} {found : Bool} (h : LcI good n best found (b + 1)) (hb : b < 2 ^ n) (hg : good (chX n 0 b) = true) (hl : found = true → (chX n 0 b).length < best.length) : LcI good n (chX n 0 b) true b := by
 refine ⟨b, Nat.le_refl b, hb, rfl, hg, fun c h1 h2 h3 => ?_⟩
 by_cases hcb : c = b
 ·subst hcb; exact ⟨Nat.le_refl _, fun h => absurd h (Nat.lt_irrefl _)⟩
 ·cases found with
  | false =>
   have := h.2 c (by omega) h2;rw [h3] at this; cases this
  | true =>
   obtain ⟨c0, g1, g2, g3, g4, g5⟩ := h;have := (g5 c (by omega) h2 h3).1;have := hl rfl;exact ⟨by omega, fun _ => by omega⟩
theorem LcI.pass {good : List Int → Bool} {n b : Nat} {best : List Int} {found : Bool} (h : LcI good n best found (b + 1)) (hn : good (chX n 0 b) = false ∨ (found = true ∧ ¬ (chX n 0 b).length < best.length)) : LcI good n best found b := by
 cases found with
 | false =>
  refine ⟨h.1, fun c h1 h2 => ?_⟩
  by_cases hcb : c = b
  ·subst hcb
   rcases hn with hn | ⟨hn, -⟩
   ·exact hn
   ·cases hn
  ·exact h.2 c (by omega) h2
 | true =>
  obtain ⟨c0, g1, g2, g3, g4, g5⟩ := h;refine ⟨c0, by omega, g2, g3, g4, fun c h1 h2 h3 => ?_⟩
  by_cases hcb : c = b
  ·subst hcb
   rcases hn with hn | ⟨-, hn⟩
   ·rw [hn] at h3; cases h3
   ·exact ⟨by omega, fun h => by omega⟩
  ·exact g5 c (by omega) h2 h3
theorem LcI.done {good : List Int → Bool} {n k r : Nat} {best : List Int} {found : Bool} (h : LcI good n best found 0) (hL : LeastS good n k r) : found = true ∧ best = sbs n 0 k r := by
 obtain ⟨n1, n2⟩ := xt n 0 k r hL.lt;have hgo := hL.ok;rw [← n2] at hgo
 cases found with
 | false =>
  have := h.2 _ (Nat.zero_le _) n1;rw [hgo] at this; cases this
 | true =>
  refine ⟨rfl, ?_⟩;obtain ⟨c0, g1, g2, g3, g4, g5⟩ := h;obtain ⟨h1, h2⟩ := g5 _ (Nat.zero_le _) n1 hgo;rw [n2, hL.len] at h1 h2
  have hin : ∀ y ∈ best, 0 ≤ y ∧ y < (n : Int) := fun y hy => by
   rw [g3] at hy;have := sb n 0 c0 y hy;omega
  have hinc : best.Pairwise (· < ·) := by rw [g3]; exact wm n 0 c0
  have h3 := hL.le hinc hin g4;rw [hL.len] at h3;obtain ⟨r', hr', he⟩ := vw n 0 best hinc fun y hy => by have := hin y hy; omega
  have hlk : best.length = k := by omega
  rw [hlk] at hr' he
  rcases Nat.lt_trichotomy r' r with h4 | h4 | h4
  ·have := hL.first r' h4;rw [he, g4] at this; cases this
  ·rw [← he, h4]
  ·obtain ⟨m1, m2⟩ := xt n 0 k r' hr';have h5 := xu n k r r' h4 hr';have h6 : nsb n k r' = c0 := R5 m1 g2 (by rw [m2, he, g3]);have := h2 (by omega);omega
theorem Fi (n c : Nat) : ∀ v, v ≤ n → ep (fun v => c.testBit (n - 1 - v)) v ++ chX (n - v) v c = chX n 0 c
 | 0, _ => rfl
 | v + 1, hv => by
  rw [← Fi n c v (by omega)];obtain ⟨d, hd⟩ : ∃ d, n - v = d + 1 := ⟨n - v - 1, by omega⟩;rw [hd, chX, show n - (v + 1) = d by omega];have hb : n - 1 - v = d := by omega
  cases hc : c.testBit d with
  | true =>
   rw [gg (by show c.testBit (n - 1 - v) = true; rw [hb]; exact hc), if_pos rfl, List.append_assoc];rfl
  | false =>
   rw [ld (by show c.testBit (n - 1 - v) = false; rw [hb]; exact hc), if_neg (by decide)]
theorem R6 (n c : Nat) : ep (fun v => c.testBit (n - 1 - v)) n = chX n 0 c := by
 have := Fi n c n (Nat.le_refl n);rw [Nat.sub_self, chX, List.append_nil] at this;exact this
end
section
theorem O2 {b j0 : Nat} {P Q : Nat → Bool} (hj : j0 < b) (h : ∀ j, j < b → Q j = (P j || decide (j = j0))) : me b Q = if me b P < 0 ∨ (j0 : Int) < me b P then (j0 : Int) else me b P := by
 by_cases hx : ∃ j, j < b ∧ P j = true
 ·obtain ⟨j, hj1, hp⟩ := hx;obtain ⟨m, h1, h2, h3⟩ := yg (P := fun j => P j = true) j hp;have hmf : me b P = m := jj (by omega) h2 fun i hi => by simpa using h3 i hi
  rw [hmf]
  by_cases hlt : j0 < m
  ·rw [if_pos (.inr (by omega))];refine jj hj (by rw [h j0 hj]; simp) fun i hi => ?_;have h4 : P i = false := by simpa using h3 i (by omega)
   rw [h i (by omega), h4, Bool.false_or, decide_eq_false_iff_not]; omega
  ·rw [if_neg (by omega)];refine jj (by omega) (by rw [h m (by omega), h2]; rfl) fun i hi => ?_;have h4 : P i = false := by simpa using h3 i hi
   rw [h i (by omega), h4, Bool.false_or, decide_eq_false_iff_not]; omega
 ·have hf : ∀ j, j < b → P j = false := fun j hj => by
   cases hp : P j with
   | false => rfl
   | true => exact absurd ⟨j, hj, hp⟩ hx
  rw [ls hf, if_pos (.inl (by decide))];refine jj hj (by rw [h j0 hj]; simp) fun i hi => ?_;rw [h i (by omega), hf i (by omega), Bool.false_or, decide_eq_false_iff_not]; omega
section
variable (ess : List (List (Int × Int))) (sd : Nat → Bool) (m : List Int) (r : Nat)
def bsP (k w j : Nat) : Bool := (decide (gi m (pt ess w j).1.toNat < 0) && decide ((pt ess w j).2 = (r : Int))) && (decide ((pt ess w j).1.toNat < k) && !sd (pt ess w j).1.toNat)
def bsI (k w : Nat) : Int := if gi m w < 0 then me (dg ess w) (bsP ess sd m r k w) else -1
def bsL (k : Nat) : List Int := (List.range ess.length).map (bsI ess sd m r k)
def rdM : Nat → Nat
 | 0 => 0
 | k + 1 => if sd k = false then max (rdM k) (dg ess k) else rdM k
end
section
variable {ess : List (List (Int × Int))} {sd : Nat → Bool} {m : List Int} {r : Nat}
theorem C8 (k : Nat) : (bsL ess sd m r k).length = ess.length := by simp [bsL]
theorem Pu {k w : Nat} (h : w < ess.length) : gi (bsL ess sd m r k) w = bsI ess sd m r k w := by
 rw [cf (by rw [C8]; exact h)]; simp [bsL]
theorem Pv (w : Nat) : bsI ess sd m r 0 w = -1 := by
 unfold bsI;split
 ·exact ls fun j _ => by unfold bsP; simp
 ·rfl
theorem Pr : bsL ess sd m r 0 = List.replicate ess.length (-1) := by
 apply List.ext_getElem
 ·simp [bsL]
 ·intro j h1 h2;simp [bsL, Pv]
theorem Vc (hs : Sym ess) {v w : Nat} (hw : w < ess.length) (h : sd v = true ∨ 0 ≤ gi m v ∨ dg ess v ≤ r) : bsI ess sd m r (v + 1) w = bsI ess sd m r v w := by
 unfold bsI;split
 ·refine qd fun j hj => ?_;obtain ⟨b, i, e, hb, hi, e2⟩ := hs w j hw hj;unfold bsP;rw [e];simp only [Int.toNat_natCast]
  by_cases hbv : b = v
  ·subst hbv
   rcases h with h | h | h
   ·simp [h]
   ·have : ¬ gi m b < 0 := by omega
    simp [this]
   ·have : ¬ ((i : Nat) : Int) = (r : Int) := by omega
    simp [this]
  ·have h1 : decide (b < v + 1) = decide (b < v) := by rw [decide_eq_decide]; omega
   rw [h1]
 ·rfl
theorem ud (hs : Sym ess) {v w w0 j0 : Nat} (hw : w < ess.length) (he : pt ess v r = ((w0 : Int), (j0 : Int))) (hne : w ≠ w0) : bsI ess sd m r (v + 1) w = bsI ess sd m r v w := by
 unfold bsI;split
 ·refine qd fun j hj => ?_;obtain ⟨b, i, e, hb, hi, e2⟩ := hs w j hw hj;unfold bsP;rw [e];simp only [Int.toNat_natCast]
  by_cases hbv : b = v
  ·subst hbv
   have : ¬ ((i : Nat) : Int) = (r : Int) := fun h => by
    have h3 : i = r := by omega
    rw [h3, he] at e2;have := congrArg Prod.fst e2;have h4 : (w0 : Int) = (w : Int) := this;exact hne (by omega)
   simp [this]
  ·have h1 : decide (b < v + 1) = decide (b < v) := by rw [decide_eq_decide]; omega
   rw [h1]
 ·rfl
theorem Jo (hs : Sym ess) {v w0 j0 : Nat} (hv : v < ess.length) (hr : r < dg ess v) (hsv : sd v = false) (hm : gi m v < 0) (he : pt ess v r = ((w0 : Int), (j0 : Int))) (hw : gi m w0 < 0) : bsI ess sd m r (v + 1) w0 = if bsI ess sd m r v w0 < 0 ∨ (j0 : Int) < bsI ess sd m r v w0 then (j0 : Int) else bsI ess sd m r v w0 := by
 obtain ⟨b0, i0, e0, hb0, hi0, e1⟩ := hs v r hv hr;rw [he] at e0;have hbw : b0 = w0 := by have := congrArg Prod.fst e0; have h4 : (w0 : Int) = (b0 : Int) := this; omega
 have hij : i0 = j0 := by have := congrArg Prod.snd e0; have h4 : (j0 : Int) = (i0 : Int) := this; omega
 subst hbw; subst hij;unfold bsI;rw [if_pos hw, if_pos hw];refine O2 hi0 fun j hj => ?_;obtain ⟨b, i, e, hb, hi, e2⟩ := hs b0 j hb0 hj;unfold bsP;rw [e];simp only [Int.toNat_natCast]
 by_cases hbv : b = v
 ·subst hbv
  by_cases hir : i = r
  ·subst hir;rw [he] at e2;have hj0 : j = i0 := by have := congrArg Prod.snd e2; have h4 : (i0 : Int) = (j : Int) := this; omega
   simp [hm, hsv, hj0]
  ·have h1 : ¬ ((i : Nat) : Int) = (r : Int) := by omega
   have h2 : j ≠ i0 := fun h => by
    subst h;rw [e] at e1;have := congrArg Prod.snd e1;have h4 : (i : Int) = (r : Int) := this;exact h1 h4
   simp [h1, h2]
 ·have h1 : decide (b < v + 1) = decide (b < v) := by rw [decide_eq_decide]; omega
  have h2 : j ≠ i0 := fun h => by
   subst h;rw [e] at e1;have := congrArg Prod.fst e1;have h4 : (b : Int) = (v : Int) := this;omega
  rw [h1, decide_eq_false h2, Bool.or_false]
theorem Fn {v w0 : Nat} (hw : ¬ gi m w0 < 0) : bsI ess sd m r v w0 = -1 := by unfold bsI; rw [if_neg hw]
theorem Hq (hs : Sym ess) {v : Nat} (h : sd v = true ∨ 0 ≤ gi m v ∨ dg ess v ≤ r) : bsL ess sd m r (v + 1) = bsL ess sd m r v :=
 List.map_congr_left fun w hw => Vc hs (List.mem_range.1 hw) h
theorem Pt (hs : Sym ess) {v w0 j0 : Nat} (he : pt ess v r = ((w0 : Int), (j0 : Int))) (hw : ¬ gi m w0 < 0) : bsL ess sd m r (v + 1) = bsL ess sd m r v :=
 List.map_congr_left fun w hwl => by
  by_cases h : w = w0
  ·rw [h, Fn hw, Fn hw]
  ·exact ud hs (List.mem_range.1 hwl) he h
theorem R7 (hs : Sym ess) {v w0 j0 : Nat} (hv : v < ess.length) (hr : r < dg ess v) (hsv : sd v = false) (hm : gi m v < 0) (he : pt ess v r = ((w0 : Int), (j0 : Int))) (hw : gi m w0 < 0) (h : bsI ess sd m r v w0 < 0 ∨ (j0 : Int) < bsI ess sd m r v w0) : (bsL ess sd m r v).set w0 (j0 : Int) = bsL ess sd m r (v + 1) := by
 have hy := Jo hs hv hr hsv hm he hw;rw [if_pos h] at hy;apply List.ext_getElem
 ·simp [bsL]
 ·intro w h1 h2;have hwl : w < ess.length := by simpa [bsL] using h2
  rw [List.getElem_set];simp only [bsL, List.getElem_map, List.getElem_range]
  by_cases hww : w0 = w
  ·subst hww; rw [if_pos rfl, hy]
  ·rw [if_neg hww, ud hs hwl he (Ne.symm hww)]
theorem Ps (hs : Sym ess) {v w0 j0 : Nat} (hv : v < ess.length) (hr : r < dg ess v) (hsv : sd v = false) (hm : gi m v < 0) (he : pt ess v r = ((w0 : Int), (j0 : Int))) (hw : gi m w0 < 0) (h : ¬ (bsI ess sd m r v w0 < 0 ∨ (j0 : Int) < bsI ess sd m r v w0)) : bsL ess sd m r (v + 1) = bsL ess sd m r v := by
 have hy := Jo hs hv hr hsv hm he hw;rw [if_neg h] at hy;refine List.map_congr_left fun w hwl => ?_
 by_cases hww : w = w0
 ·rw [hww, hy]
 ·exact ud hs (List.mem_range.1 hwl) he hww
theorem R8 (hs : Sym ess) (h2 : ∀ v i, v < ess.length → i < dg ess v → sd (pt ess v i).1.toNat ≠ sd v) {w : Nat} (hw : w < ess.length) : bsI ess sd m r ess.length w = match prJ ess sd m r w with
 | some j => (j : Int)
 | none => -1 := by
 have hnb : ∀ j, j < dg ess w → (pt ess w j).1.toNat < ess.length := fun j hj => by
  obtain ⟨b, i, e, hb, -, -⟩ := hs w j hw hj;rw [e]; simpa using hb
 unfold bsI prJ
 by_cases hm : gi m w < 0
 ·rw [if_pos hm]
  cases hsw : sd w with
  | true =>
   rw [if_pos ⟨rfl, hm⟩]
   have hc : me (dg ess w) (bsP ess sd m r ess.length w) = me (dg ess w) fun j => decide (gi m (pt ess w j).1.toNat < 0) && decide ((pt ess w j).2 = (r : Int)) := qd fun j hj => by
    have h3 := h2 w j hw hj;rw [hsw] at h3;have h4 : sd (pt ess w j).1.toNat = false := by simpa using h3
    unfold bsP;rw [h4, decide_eq_true (hnb j hj)];simp
   rw [hc]; rfl
  | false =>
   rw [if_neg (fun h => by cases h.1)]
   exact ls fun j hj => by
    have h3 := h2 w j hw hj;rw [hsw] at h3;have h4 : sd (pt ess w j).1.toNat = true := by simpa using h3
    unfold bsP;rw [h4]; simp
 ·rw [if_neg hm, if_neg (fun h => hm h.2)]
theorem Gi : ∀ {k v : Nat}, v < k → sd v = false → dg ess v ≤ rdM ess sd k
 | k + 1, v, hv, hsv => by
  rw [rdM]
  by_cases h : v = k
  ·subst h; rw [if_pos hsv]; exact Nat.le_max_right _ _
  ·have := Gi (k := k) (v := v) (by omega) hsv;split
   ·exact Nat.le_trans this (Nat.le_max_left _ _)
   ·exact this
theorem sy {B : Nat} (h : ∀ v, dg ess v ≤ B) : ∀ k, rdM ess sd k ≤ B
 | 0 => Nat.zero_le _
 | k + 1 => by
  rw [rdM];split
  ·exact Nat.max_le.2 ⟨sy h k, h k⟩
  ·exact sy h k
def mtJ (ess : List (List (Int × Int))) (m : List Int) (r w : Nat) (T : List Int) (j : Nat) : List Int := match (List.range j).find? fun i => decide (gi m (pt ess w i).1.toNat < 0) && decide ((pt ess w i).2 = (r : Int)) with
 | some i => (T.set w (i : Int)).set (pt ess w i).1.toNat (r : Int)
 | none => T
def tkJ (ess : List (List (Int × Int))) (m : List Int) (r w j : Nat) : Bool := ((List.range j).find? fun i => decide (gi m (pt ess w i).1.toNat < 0) && decide ((pt ess w i).2 = (r : Int))).isSome
theorem Nr (w : Nat) (T : List Int) : mtJ ess m r w T 0 = T := rfl
theorem Bf {p : Nat → Bool} (j : Nat) : (List.range (j + 1)).find? p = ((List.range j).find? p).or (if p j = true then some j else none) := by
 rw [List.range_succ, List.find?_append];cases h : p j <;> simp [h]
theorem Ns {w j : Nat} {T : List Int} (h : tkJ ess m r w j = false) (h1 : gi m (pt ess w j).1.toNat < 0) (h2 : (pt ess w j).2 = (r : Int)) : mtJ ess m r w T j = T ∧ mtJ ess m r w T (j + 1) = (T.set w (j : Int)).set (pt ess w j).1.toNat (r : Int) ∧ tkJ ess m r w (j + 1) = true := by
 unfold tkJ at h ⊢;unfold mtJ;rw [Bf]
 cases hf : (List.range j).find? fun i => decide (gi m (pt ess w i).1.toNat < 0) && decide ((pt ess w i).2 = (r : Int)) with
 | some i => rw [hf] at h; cases h
 | none => simp [h1, h2]
theorem Nt {w j : Nat} {T : List Int} (h : tkJ ess m r w j = true ∨ ¬ gi m (pt ess w j).1.toNat < 0 ∨ (pt ess w j).2 ≠ (r : Int)) : mtJ ess m r w T (j + 1) = mtJ ess m r w T j ∧ tkJ ess m r w (j + 1) = tkJ ess m r w j := by
 unfold tkJ at h ⊢;unfold mtJ;rw [Bf]
 cases hf : (List.range j).find? fun i => decide (gi m (pt ess w i).1.toNat < 0) && decide ((pt ess w i).2 = (r : Int)) with
 | some i => simp
 | none =>
  rw [hf] at h
  rcases h with h | h | h
  ·cases h
  ·simp [h]
  ·simp [h]
theorem Rc {w : Nat} (hsw : sd w = true) (hm : gi m w < 0) : mtJ ess m r w (prT ess sd m r w) (dg ess w) = prT ess sd m r (w + 1) := by
 rw [prT];unfold mtJ prJ;rw [if_pos ⟨hsw, hm⟩];rfl
theorem M7 {w : Nat} (h : sd w = false ∨ ¬ gi m w < 0) : prT ess sd m r (w + 1) = prT ess sd m r w := by
 have hj : prJ ess sd m r w = none := by
  unfold prJ;refine if_neg fun h2 => ?_
  rcases h with h | h
  ·rw [h] at h2; cases h2.1
  ·exact h h2.2
 rw [prT, hj]
theorem Tv (hs : Sym ess) (hl : m.length = ess.length) (h2 : ∀ v i, v < ess.length → i < dg ess v → sd (pt ess v i).1.toNat ≠ sd v) {w j : Nat} (hw : w < ess.length) (hsw : sd w = true) (hm : gi m w < 0) (hj : j ≤ dg ess w) : (gi (mtJ ess m r w (prT ess sd m r w) j) w < 0) ↔ tkJ ess m r w j = false := by
 have hT : gi (prT ess sd m r w) w = gi m w := (vx hs hl h2 w (by omega)).a2 w hw hsw fun h => absurd h (Nat.lt_irrefl w);have hTl := l5 (ess := ess) (sd := sd) (m := m) (r := r) w;unfold mtJ tkJ
 cases hf : (List.range j).find? fun i => decide (gi m (pt ess w i).1.toNat < 0) && decide ((pt ess w i).2 = (r : Int)) with
 | none => rw [hT]; simp [hm]
 | some i =>
  have hi : i < j := List.mem_range.1 (List.mem_of_find?_eq_some hf);have h3 := h2 w i hw (by omega);have hne : w ≠ (pt ess w i).1.toNat := fun h => h3 (by rw [← h]);obtain ⟨b, i2, e, hb, -, -⟩ := hs w i hw (by omega);have hbl : (pt ess w i).1.toNat < ess.length := by rw [e]; simpa using hb
  show gi ((((prT ess sd m r w).set w (i : Int))).set (pt ess w i).1.toNat (r : Int)) w < 0 ↔ _;rw [md (by rw [List.length_set]; omega), if_neg hne, md (by omega), if_pos rfl];simp
theorem Rb (w : Nat) (T : List Int) (j : Nat) : (mtJ ess m r w T j).length = T.length := by
 unfold mtJ;split
 ·rw [List.length_set, List.length_set]
 ·rfl
theorem vz : ∀ r, (prM ess sd r).length = ess.length
 | 0 => by simp [prM]
 | r + 1 => by rw [prM, l5, vz r]
end
end
section
open Go Go.RowKit
theorem LeastS.size_le {good : List Int → Bool} {n k r : Nat} (h : LeastS good n k r) : k ≤ n := by
 have := h.lt
 by_cases hk : n < k
 ·rw [ou hk] at this; omega
 ·omega
theorem Tm {n k r : Nat} (hr : r < bin n k) : ∀ x ∈ sbs n 0 k r, 0 ≤ x ∧ x < (n : Int) := fun x hx => by
 have := (sr n 0 k r hr).2.2 x hx;omega
theorem LeastS.last {good : List Int → Bool} {n k r : Nat} (h : LeastS good n k r) (hall : ∀ k' r', k' < n → r' < bin n k' → good (sbs n 0 k' r') = false) : sbs n 0 k r = ef n := by
 have hk := h.size_le
 have hkn : k = n := by
  by_cases hlt : k < n
  ·have := hall k r hlt h.lt;rw [h.ok] at this; cases this
  ·omega
 have hr := h.lt;rw [hkn, se] at hr;rw [hkn, show r = 0 by omega, Dz]
end
section
set_option maxHeartbeats 0
set_option maxRecDepth 8000
open Go Go.RowKit
def ncE (S : List Int) (e : Int × Int × Int × Int) : Bool := !decide (0 ≤ je S e.1) && !decide (0 ≤ je S e.2.2.1)
def jz (N : Net) (S : List Int) : Bool := !(Fx (edL N N.ends.length).length fun j => ncE S (gq (edL N N.ends.length) j))
theorem Eu (S : List Int) (x : Int) : qb S x = decide (0 ≤ je S x) := by
 rw [Bool.eq_iff_iff, np, decide_eq_true_iff, lm]
theorem nx {N : Net} {S : List Int} : jz N S = true ↔ ∀ j, j < (edL N N.ends.length).length → ncE S (gq (edL N N.ends.length) j) = false := by
 unfold jz
 cases h : Fx (edL N N.ends.length).length fun j => ncE S (gq (edL N N.ends.length) j) with
 | false =>
  refine ⟨fun _ j hj => ?_, fun _ => rfl⟩
  cases h2 : ncE S (gq (edL N N.ends.length) j) with
  | false => rfl
  | true =>
   have := (Fw (b := fun j => ncE S (gq (edL N N.ends.length) j))).2 ⟨j, hj, h2⟩;rw [h] at this; cases this
 | true =>
  obtain ⟨j, hj, h2⟩ := Fw.1 h;refine ⟨(fun h => by cases h), fun h3 => ?_⟩;rw [h3 j hj] at h2; cases h2
theorem Pg {N : Net} (hs : Sym N.ends) : jz N (ef N.ends.length) = true := nx.2 fun j hj => by
 obtain ⟨k2, i, hk, hi, -, hq⟩ := Cz (List.getElem_mem hj);rw [← Ew hj] at hq;rw [hq];unfold ncE;have : decide (0 ≤ je (ef N.ends.length) ((k2 : Nat) : Int)) = true := by rw [decide_eq_true_iff, lm, wy]; omega
 show (!decide (0 ≤ je (ef N.ends.length) ((k2 : Nat) : Int)) && _) = false;rw [this]; rfl
def zBCb11 := PLift.up (And.intro ap (And.intro bh (And.intro ce (And.intro bl (And.intro az (And.intro @if_pos.{1} (And.intro @b7 (And.intro @bz (And.intro @bq (And.intro @bt (And.intro iv (And.intro iw (And.intro ew (And.intro @o8 (And.intro @kv @trivial)))))))))))))))
theorem nu : type_of% zBCb11.down := zBCb11.down
theorem G6 (o : Bool) (t : TypeId) (S : List Int) (e : Int × Int × Int × Int) (hl : S.length ≤ 1000000) : DCalls Tryz.prog 184 [.agg (qC e), .rp [.sl o t 1 (S.map iC)]] (fun r => r = [.c (.p (.bool (ncE S e)))]) := by
 obtain ⟨e1, e2, e3, e4⟩ := e;refine ao Tryz.func184 rfl (by rw [Tryz.ntmps184]; simp) fun w0 => ?_;rw [Tryz.ntmps184];have dX := nu;simp only [b4, bc, Arg.av, bw, b8, ints, ends, qC];refine ab (dR fun K hK => ?_);(repeat refine eV ?_);refine aa (hK _ (wK [1, 2] ?_));clear hK K;refine ab (dR fun K hK => ?_)
 repeat (apply dr; (focus exact rfl); (focus (simp (disch := first | omega | (intros; contradiction)) only [ac, bj, pZ, simprocAttr, ap, bh, ce, bl, az, if_pos, b7, bz, bq, bt, iv, iw, ew, o8, kv , As]; exact rfl)))
 refine gn rfl ⟨rfl, _, rfl⟩ (by omega) (by first | exact As) (by simp (disch := first | omega | (intros; contradiction)) only [ac, bj, pZ, simprocAttr, ap, bh, ce, bl, az, if_pos, b7, bz, bq, bt, iv, iw, ew, o8, kv , As] <;> exact rfl) (zi o t S e1 hl) ?_;rintro _ rfl
 repeat (apply dr; (focus exact rfl); (focus (simp (disch := first | omega | (intros; contradiction)) only [ac, bj, pZ, simprocAttr, ap, bh, ce, bl, az, if_pos, b7, bz, bq, bt, iv, iw, ew, o8, kv , As]; exact rfl)))
 obtain h1 | h1 := Bool.eq_false_or_eq_true (decide (0 ≤ je S e1))
 ·have dX := And.intro dX (@h1);(repeat refine eV ?_);have dX := And.intro dX (@h1);refine csF ?_;(repeat refine eV ?_);have dX := And.intro dX (@h1);(repeat refine eV ?_);have dK := @h1;refine aa (hK _ (ay [3] ?_));clear hK K;exact ak (aq Tryz.results184 (.one (.plain _ _ rfl)) (by decide) (by unfold ncE; rw [h1]; rfl))
 ·have dX := And.intro dX (@h1);(repeat refine eV ?_);refine cgF rfl rfl ⟨rfl, _, rfl⟩ (by omega) (by first | exact As) (zi o t S e3 hl) ?_;rintro _ rfl
  repeat (apply dr; (focus exact rfl); (focus (simp (disch := first | omega | (intros; contradiction)) only [ac, bj, pZ, simprocAttr, ap, bh, ce, bl, az, if_pos, b7, bz, bq, bt, iv, iw, ew, o8, kv , h1, As]; exact rfl)))
  have dK := @h1;refine aa (hK _ (ay [3] ?_));clear hK K;exact ak (aq Tryz.results184 (.one (.plain _ _ rfl)) (by decide) (by unfold ncE; rw [h1]; rfl))
theorem yh (f : NF) (N : Net) (o : Bool) (t : TypeId) (S : List Int) (hg : bm N = true) (hl : S.length ≤ 1000000) : DCalls Tryz.prog 135 [.agg (bw f N), .c (.sl o t 1 (S.map iC))] (fun r => r = [.c (.p (.bool (jz N S)))]) := by
 obtain ⟨hs, hn, hids, hdg⟩ := fe hg;have hel := wk N hdg N.ends.length;have hclo : ∀ j, j < (edL N N.ends.length).length → DCalls Tryz.prog 184 ([.agg (qC (gq (edL N N.ends.length) j))] ++ [[C.sl false t 1 (S.map iC)]].map .rp) (fun r => r = [.c (.p (.bool (ncE S (gq (edL N N.ends.length) j))))]) := fun j _ => G6 false t S _ hl;have hcv : (!(Fx (edL N N.ends.length).length fun j => ncE S (gq (edL N N.ends.length) j))) = jz N S := rfl;refine ao Tryz.func135 rfl (by rw [Tryz.ntmps135]; simp) fun w0 => ?_;rw [Tryz.ntmps135];have dX := nu;simp only [b4, bc, Arg.av, bw, b8, ints, ends];refine ab (dR fun K hK => ?_);(repeat refine eV ?_);refine aa (hK _ (wK [2, 3] ?_));clear hK K;refine ab (dR fun K hK => ?_)
 repeat (apply dr; (focus exact rfl); (focus (simp (disch := first | omega | (intros; contradiction)) only [ac, bj, pZ, simprocAttr, ap, bh, ce, bl, az, if_pos, b7, bz, bq, bt, iv, iw, ew, o8, kv , yb, yc]; exact rfl)))
 refine gn rfl ⟨rfl, _, rfl⟩ (by omega) (by first | exact yb | exact yc) (by simp (disch := first | omega | (intros; contradiction)) only [ac, bj, pZ, simprocAttr, ap, bh, ce, bl, az, if_pos, b7, bz, bq, bt, iv, iw, ew, o8, kv , yb, yc] <;> exact rfl) (Rr ⟨false, f.t1, f.o2, f.t2, false, f.t3, false, f.t4⟩ N (by omega) hdg) ?_;rintro _ rfl
 repeat (apply dr; (focus exact rfl); (focus (simp (disch := first | omega | (intros; contradiction)) only [ac, bj, pZ, simprocAttr, ap, bh, ce, bl, az, if_pos, b7, bz, bq, bt, iv, iw, ew, o8, kv , yb, yc]; exact rfl)))
 refine gn rfl ⟨rfl, _, rfl⟩ (by omega) (by first | exact yb | exact yc) (by simp (disch := first | omega | (intros; contradiction)) only [ac, bj, pZ, simprocAttr, ap, bh, ce, bl, az, if_pos, b7, bz, bq, bt, iv, iw, ew, o8, kv , yb, yc] <;> exact rfl) (vt true 78 (edL N N.ends.length) 184 _ (fun j => ncE S (gq (edL N N.ends.length) j)) (by omega) T5 hclo) ?_;rintro _ rfl
 repeat (apply dr; (focus exact rfl); (focus (simp (disch := first | omega | (intros; contradiction)) only [ac, bj, pZ, simprocAttr, ap, bh, ce, bl, az, if_pos, b7, bz, bq, bt, iv, iw, ew, o8, kv , yb, yc]; exact rfl)))
 have dK := @hcv;refine aa (hK _ (ay [4] ?_));clear hK K;exact ak (aq Tryz.results135 (.one (.plain _ _ rfl)) (by decide) rfl)
theorem vl (f : NF) (N : Net) (o : Bool) (t : TypeId) (S : List Int) (hg : bm N = true) (hr : la S 0 ((N.ends.length : Int) - 1) = true) (hl : S.length ≤ 1000000) : DCalls Tryz.prog 49 [.agg (bw f N), .c (.sl o t 1 (S.map iC))] (fun r => r = [.c (.p (.bool (jz N S))), .c (.p (.bool true))]) := by
 obtain ⟨hs, hn, hids, hdg⟩ := fe hg;refine ao Tryz.func49 rfl (by rw [Tryz.ntmps49]; simp) fun w0 => ?_;rw [Tryz.ntmps49];have dX := nu;simp only [b4, bc, Arg.av, bw, b8, ints, ends];refine ab (dR fun K hK => ?_);(repeat refine eV ?_);refine aa (hK _ (wK [1, 2] ?_));clear hK K;refine ab ?_;refine ab (dR fun K hK => ?_);(repeat refine eV ?_);refine cL rfl ⟨rfl, _, rfl⟩ (by omega) (by first | exact Wn) (Ep ⟨false, f.t1, f.o2, f.t2, false, f.t3, false, f.t4⟩ N o t S (by omega) (by omega)) ?_;rintro _ rfl;(repeat refine eV ?_);have dK := And.intro @hg @hr;refine aa (hK _ (ay [1, 2, 9] ?_));clear hK K;refine dI ?_ ?_<;>intro hb
 ·cases hb
 ·refine af ?_;show DW _ _ _ _ _;refine ab (dR fun K hK => ?_);(repeat refine eV ?_);refine cL rfl ⟨rfl, _, rfl⟩ (by omega) (by first | exact Og) (yh ⟨false, f.t1, f.o2, f.t2, false, f.t3, false, f.t4⟩ N o t S hg hl) ?_;rintro _ rfl;(repeat refine eV ?_);refine aa (hK _ (wK [4, 5] ?_));clear hK K;exact ak (aq Tryz.results49 (.two (.plain _ _ rfl) (.plain _ _ rfl)) (by decide) rfl)
theorem Rz {N : Net} {S : List Int} {j : Nat} (hj : j < (edL N N.ends.length).length) (h : ncE S (gq (edL N N.ends.length) j) = true) : jz N S = false := by
 cases h2 : jz N S with
 | false => rfl
 | true => rw [nx.1 h2 j hj] at h; cases h
theorem xz (f : NF) (N : Net) (o : Bool) (t : TypeId) (S : List Int) (hg : bm N = true) : DCalls Tryz.prog 137 [.agg (bw f N), .c (.sl o t 1 (S.map iC))] (fun r => r = [.c (.p (.bool (jz N S)))]) := by
 obtain ⟨hs, hn, hids, hdg⟩ := fe hg;have hel := wk N hdg N.ends.length;have hll : (ja N N.ends.length).length = (edL N N.ends.length).length := by rw [qg, List.length_map]
 refine ao Tryz.func137 rfl (by rw [Tryz.ntmps137]; simp) fun w0 => ?_;rw [Tryz.ntmps137];have dX := nu;simp only [b4, bc, Arg.av, bw, b8, ints, ends];refine ab (dR fun K hK => ?_);(repeat refine eV ?_);refine aa (hK _ (wK [1, 2] ?_));clear hK K;refine ab ?_;refine ab (dR fun K hK => ?_);(repeat refine eV ?_);refine cL rfl ⟨rfl, _, rfl⟩ (by omega) (by first | exact T7) (Ku ⟨false, f.t1, f.o2, f.t2, false, f.t3, false, f.t4⟩ N (by omega) (fun v _ => hdg v)) ?_;rintro _ rfl;(repeat refine eV ?_);have dK := @hll;refine aa (hK _ (ay [1, 8, 9, 10] ?_));clear hK K;refine yr 8 [1, 8, 9, 10] rfl rfl (by simp only [ac, pZ, simprocAttr, D2, Ak, qz, qy, k9]; exact rfl) ?_;refine ae ?_;refine ax (X := Nat) (fun k => k ≤ (edL N N.ends.length).length ∧ ∀ j, j < k → ncE S (gq (edL N N.ends.length) j) = false) (fun k => [(10, .c (.p (.int .i64 k)))]) (fun k => []) (fun k => (edL N N.ends.length).length - k) 0 ⟨Nat.zero_le _, fun j hj => absurd hj (Nat.not_lt_zero j)⟩ (by first | rfl | (simp only [ac, pZ, simprocAttr, Int.natCast_zero] <;> rfl)) ?_;rintro k ⟨hk, hr⟩;intro E hE;simp only [ac, pZ, simprocAttr] at hE;subst hE;have dX := And.intro dX (@hll);refine ab (dR fun K hK => ?_);(repeat refine eV ?_);have dK := @hll;refine aa (hK _ (ay [1, 8, 9, 10, 11] ?_));clear hK K;refine ab (dI (fun hb => ?_) (fun hb => ?_))
 ·have hk1 : k < (edL N N.ends.length).length := by simpa using hb
  obtain ⟨Q, hQ⟩ : ∃ Q, Q = gq (edL N N.ends.length) k := ⟨_, rfl⟩;obtain ⟨R, hR⟩ : ∃ R, R = lg (ja N N.ends.length) k := ⟨_, rfl⟩
  have hRe : R = [Q.1, Q.2.1, Q.2.2.1, Q.2.2.2] := by
   rw [hR, hQ, lg, qg, List.getD_eq_getElem?_getD, List.getElem?_map, List.getElem?_eq_getElem hk1, Ew hk1];rfl
  have hRl : R.length = 4 := by rw [hRe]; rfl
  have hR0 : gi R 0 = Q.1 := by rw [hRe]; rfl
  have hR2 : gi R 2 = Q.2.2.1 := by rw [hRe]; rfl
  have ht2 : (2 : Int).toNat = 2 := rfl;have hi1 := Eu S Q.1;have hi2 := Eu S Q.2.2.1;have hnc : ncE S Q = (!decide (0 ≤ je S Q.1) && !decide (0 ≤ je S Q.2.2.1)) := rfl;refine af ?_;show DW _ _ _ _ _;refine ab (ae ?_);have dX := And.intro dX (And.intro (Eq.symm hR) @hll);refine ab (dR fun K hK => ?_);(repeat refine eV ?_);have dK := (Eq.symm hR);refine aa (hK _ (ay [1, 6, 8, 9, 10] ?_));clear hK K;have dX := And.intro dX (And.intro @hRl (And.intro @hR0 (And.intro @hR2 @ht2)));refine ab (dR fun K hK => ?_);(repeat refine eV ?_);have dX := And.intro dX (And.intro @hRl (And.intro @hR0 (And.intro @hR2 @ht2)));refine cL rfl ⟨rfl, _, rfl⟩ (by omega) (by first | exact I5) (Ck o t S Q.1) ?_;rintro _ rfl;(repeat refine eV ?_);obtain h1 | h1 := Bool.eq_false_or_eq_true (decide (0 ≤ je S Q.1))
  ·rw [h1] at hi1 hnc;have dX := And.intro dX (And.intro @hi1 (And.intro @hRl (And.intro @hR0 (And.intro @hR2 @ht2))));(repeat refine eV ?_);have dX := And.intro dX (@hi1);refine csF ?_;(repeat refine eV ?_);have dX := And.intro dX (@hi1);(repeat refine eV ?_);have dK := @hi1;refine aa (hK _ (ay [1, 8, 9, 10, 27] ?_));clear hK K;refine dI ?_ ?_<;>intro hb
   ·cases hb
   ·refine af ?_;show DW _ _ _ _ _;refine dR fun K hK => ?_;(repeat refine eV ?_);have dK := @bi;refine aa (hK _ ?_);clear hK K;show ∃ x, _ ∧ _ ∧ Weak _ _;refine ⟨k + 1, ?_, ?_, an [1, 8, 9, 10]⟩
    ·refine ⟨hk1, fun j hj => ?_⟩
     by_cases h : j = k
     ·rw [h, ← hQ, hnc]; rfl
     ·exact hr j (by omega)
    ·omega
  ·rw [h1] at hi1 hnc;have dX := And.intro dX (And.intro @hi1 (And.intro @hRl (And.intro @hR0 (And.intro @hR2 @ht2))));(repeat refine eV ?_);have dX := And.intro dX (And.intro @hi1 (And.intro @hRl (And.intro @hR0 (And.intro @hR2 @ht2))));refine cgF rfl rfl ⟨rfl, _, rfl⟩ (by omega) (by first | exact I5) (Ck o t S Q.2.2.1) ?_;rintro _ rfl;(repeat refine eV ?_);obtain h2 | h2 := Bool.eq_false_or_eq_true (decide (0 ≤ je S Q.2.2.1))
   ·rw [h2] at hi2 hnc;have dX := And.intro dX (And.intro @hi1 @hi2);(repeat refine eV ?_);have dK := And.intro @hi1 @hi2;refine aa (hK _ (ay [1, 8, 9, 10, 27] ?_));clear hK K;refine dI ?_ ?_<;>intro hb
    ·cases hb
    ·refine af ?_;show DW _ _ _ _ _;refine dR fun K hK => ?_;(repeat refine eV ?_);have dK := @bi;refine aa (hK _ ?_);clear hK K;show ∃ x, _ ∧ _ ∧ Weak _ _;refine ⟨k + 1, ?_, ?_, an [1, 8, 9, 10]⟩
     ·refine ⟨hk1, fun j hj => ?_⟩
      by_cases h : j = k
      ·rw [h, ← hQ, hnc]; rfl
      ·exact hr j (by omega)
     ·omega
   ·rw [h2] at hi2 hnc;have dX := And.intro dX (And.intro @hi1 @hi2);(repeat refine eV ?_);have dK := And.intro @hi1 @hi2;refine aa (hK _ (ay [1, 8, 9, 10, 27] ?_));clear hK K;refine dI ?_ ?_<;>intro hb
    ·have hno : jz N S = false := Rz hk1 (by rw [← hQ, hnc]; rfl);refine ab (dR fun K hK => ?_);(repeat refine eV ?_);refine aa (hK _ (wK [4] ?_));clear hK K;exact ak (aq Tryz.results137 (.one (.plain _ _ rfl)) (by decide) (by rw [hno]))
    ·cases hb
 ·have hk2 : k = (edL N N.ends.length).length := by
   have : ¬ k < (edL N N.ends.length).length := by simpa using hb
   omega
  have hyes : jz N S = true := nx.2 (hk2 ▸ hr);refine am ?_;refine a7 [] (by simp only [ac, pZ, simprocAttr]; exact rfl) ?_;refine ab (dR fun K hK => ?_);(repeat refine eV ?_);refine aa (hK _ (wK [4] ?_));clear hK K;exact ak (aq Tryz.results137 (.one (.plain _ _ rfl)) (by decide) (by rw [hyes]))
theorem zv (f : NF) (N : Net) (k r : Nat) (hg : bm N = true) (h14 : N.ends.length ≤ 14) (h : LeastS (jz N) N.ends.length k r) : DCalls Tryz.prog 50 [.agg (bw f N)] (fun rr => rr = [.own false [.sl true 3 1 ((sbs N.ends.length 0 k r).map iC)], .c (.p (.bool true))]) := by
 obtain ⟨hs, hn, hids, hdg⟩ := fe hg;have c1 : decide ((N.ends.length : Int) > 14) = false := decide_eq_false (by omega);refine ao Tryz.func50 rfl (by rw [Tryz.ntmps50]; simp) fun w0 => ?_;rw [Tryz.ntmps50];have dX := nu;simp only [b4, bc, Arg.av, bw, b8, ints, ends];refine ab (dR fun K hK => ?_);(repeat refine eV ?_);refine aa (hK _ (wK [1] ?_));clear hK K;refine ab ?_;refine ab (dR fun K hK => ?_);(repeat refine eV ?_);refine cL rfl ⟨rfl, _, rfl⟩ (by omega) (by first | exact At) (i5 ⟨false, f.t1, f.o2, f.t2, false, f.t3, false, f.t4⟩ N (by omega)) ?_;rintro _ rfl;(repeat refine eV ?_);have dX := And.intro dX (And.intro @hg @c1);(repeat refine eV ?_);have dK := And.intro @hg @c1;refine aa (hK _ (ay [1, 16] ?_));clear hK K;refine dI ?_ ?_<;>intro hb
 ·cases hb
 ·refine af ?_;show DW _ _ _ _ _;refine ab (dR fun K hK => ?_);(repeat refine eV ?_);refine aa (hK _ (wK [1, 4] ?_));clear hK K;refine ab ?_;refine ab (dR fun K hK => ?_);(repeat refine eV ?_);refine aa (hK _ (wK [1, 4, 20, 21] ?_));clear hK K;refine ae ?_;refine ax (X := Nat) (fun s => s ≤ N.ends.length ∧ ∀ k' r', k' < s → r' < bin N.ends.length k' → jz N (sbs N.ends.length 0 k' r') = false) (fun s => [(21, .c (.p (.int .i64 s)))]) (fun s => []) (fun s => N.ends.length - s) 0 ⟨Nat.zero_le _, fun k' r' hk' => absurd hk' (Nat.not_lt_zero k')⟩ (by first | rfl | (simp only [ac, pZ, simprocAttr, Int.natCast_zero] <;> rfl)) ?_;rintro s ⟨hs1, hs2⟩;intro E hE;simp only [ac, pZ, simprocAttr] at hE;subst hE;refine ab (dR fun K hK => ?_);(repeat refine eV ?_);refine aa (hK _ (wK [1, 4, 20, 21, 22] ?_));clear hK K;refine ab (dI (fun hb => ?_) (fun hb => ?_))
  ·have hsn : s < N.ends.length := by simpa using hb
   have hbl := D3 (n := N.ends.length) (k := s) h14;refine af ?_;show DW _ _ _ _ _;refine ab (ae ?_);refine ab (dR fun K hK => ?_);(repeat refine eV ?_);refine aa (hK _ (wK [1, 4, 5, 20, 21] ?_));clear hK K;refine ab (dR fun K hK => ?_);(repeat refine eV ?_);refine cL rfl ⟨rfl, _, rfl⟩ (by omega) (by first | exact Oh) (y9 N.ends.length s (by omega) h14) ?_;rintro _ rfl;(repeat refine eV ?_);refine aa (hK _ (wK [1, 4, 5, 20, 21, 26, 27] ?_));clear hK K;refine ae ?_;refine ax (X := Nat) (fun q => q ≤ bin N.ends.length s ∧ ∀ r', r' < q → jz N (sbs N.ends.length 0 s r') = false) (fun q => [(27, .c (.p (.int .i64 q)))]) (fun q => []) (fun q => bin N.ends.length s - q) 0 ⟨Nat.zero_le _, fun r' hr' => absurd hr' (Nat.not_lt_zero r')⟩ (by first | rfl | (simp only [ac, pZ, simprocAttr, Int.natCast_zero] <;> rfl)) ?_;rintro q ⟨hq1, hq2⟩;intro E hE;simp only [ac, pZ, simprocAttr] at hE;subst hE;refine ab (dR fun K hK => ?_);(repeat refine eV ?_);refine aa (hK _ (wK [1, 4, 5, 20, 21, 26, 27, 28] ?_));clear hK K;refine ab (dI (fun hb => ?_) (fun hb => ?_))
   ·have hqb : q < bin N.ends.length s := by simpa using hb
    have hsl : (sbs N.ends.length 0 s q).length = s := (sr _ _ _ _ hqb).1;obtain ⟨S, hS⟩ : ∃ S, S = sbs N.ends.length 0 s q := ⟨_, rfl⟩;refine af ?_;show DW _ _ _ _ _;refine ab (ae ?_);refine ab (dR fun K hK => ?_);(repeat refine eV ?_);refine aa (hK _ (wK [1, 4, 5, 6, 20, 21, 26, 27] ?_));clear hK K;refine ab (dR fun K hK => ?_);(repeat refine eV ?_);refine cL rfl ⟨rfl, _, rfl⟩ (by omega) (by first | exact Ue) (Gd N.ends.length s q hqb h14) ?_;rintro _ rfl;(repeat refine eV ?_);have dK := (Eq.symm hS);refine aa (hK _ (ay [1, 4, 5, 7, 20, 21, 26, 27] ?_));clear hK K;rw [← hS] at hsl;refine ab (dR fun K hK => ?_);(repeat refine eV ?_);refine cL rfl ⟨rfl, _, rfl⟩ (by omega) (by first | exact Og) (yh ⟨false, f.t1, f.o2, f.t2, false, f.t3, false, f.t4⟩ N true 3 S hg (by omega)) ?_;rintro _ rfl;(repeat refine eV ?_);refine aa (hK _ (wK [1, 4, 5, 7, 20, 21, 26, 27, 36] ?_));clear hK K;refine dI ?_ ?_<;>intro hb
    ·have hL : LeastS (jz N) N.ends.length s q := ⟨hqb, by rw [← hS]; exact hb, hq2, hs2⟩;obtain ⟨e1, e2⟩ := hL.unique h;refine ab (dR fun K hK => ?_);(repeat refine eV ?_);refine aa (hK _ (wK [2, 3] ?_));clear hK K;exact ak (aq Tryz.results50 (.two (.own _ _ _ _ rfl rfl (own1 (bn _ _))) (.plain _ _ rfl)) (by decide) (by rw [hS, e1, e2]))
    ·refine af ?_;show DW _ _ _ _ _;refine dR fun K hK => ?_;(repeat refine eV ?_);have dK := @bi;refine aa (hK _ ?_);clear hK K;show ∃ x, _ ∧ _ ∧ Weak _ _;refine ⟨q + 1, ?_, ?_, an [1, 4, 5, 20, 21, 26, 27]⟩
     ·refine ⟨hqb, fun r' hr' => ?_⟩
      by_cases h9 : r' = q
      ·rw [h9, ← hS]; exact hb
      ·exact hq2 r' (by omega)
     ·omega
   ·have hqe : q = bin N.ends.length s := by
     have : ¬ q < bin N.ends.length s := by simpa using hb
     omega
    refine am ?_;refine a7 [1, 4, 20, 21] (by simp only [ac, pZ, simprocAttr]; exact rfl) ?_;refine dR fun K hK => ?_;(repeat refine eV ?_);have dK := @bi;refine aa (hK _ ?_);clear hK K;show ∃ x, _ ∧ _ ∧ Weak _ _;refine ⟨s + 1, ?_, ?_, an [1, 4, 20, 21]⟩
    ·refine ⟨hsn, fun k' r' hk' hr' => ?_⟩
     by_cases h9 : k' = s
     ·subst h9; exact hq2 r' (by omega)
     ·exact hs2 k' r' (by omega) hr'
    ·omega
  ·have hse : s = N.ends.length := by
    have : ¬ s < N.ends.length := by simpa using hb
    omega
   have hla := h.last (hse ▸ hs2);refine am ?_;refine a7 [1, 4] (by simp only [ac, pZ, simprocAttr]; exact rfl) ?_;refine ab (dR fun K hK => ?_);(repeat refine eV ?_);refine cL rfl ⟨rfl, _, rfl⟩ (by omega) (by first | exact Wl) (Eb N.ends.length (by omega)) ?_;rintro _ rfl;(repeat refine eV ?_);refine aa (hK _ (wK [2, 3] ?_));clear hK K;exact ak (aq Tryz.results50 (.two (.own _ _ _ _ rfl rfl (own1 (bn _ _))) (.plain _ _ rfl)) (by decide) (by rw [hla]))
theorem Rq (c i : Nat) (hi : i < 60) (hc : c ≤ 1000000) : DCalls Tryz.prog 185 [.c (.p (.int .i64 c)), .c (.p (.int .i64 i))] (fun r => r = [.c (.p (.bool (c.testBit i)))]) := by
 have hm : min ((i : Int).toNat) 64 = i := by rw [Int.toNat_natCast]; omega
 have hm2 : min i 64 = i := by omega
 have hf : Int.fdiv (c : Int) (2 ^ i) = ((c / 2 ^ i : Nat) : Int) := by
  rw [show (2 : Int) ^ i = ((2 ^ i : Nat) : Int) by rw [Int.natCast_pow]; rfl];rw [Int.fdiv_eq_ediv_of_nonneg _ (Int.natCast_nonneg _)];rfl
 have hd := Nat.div_le_self c (2 ^ i);have hi0 : ((i : Int) < 0) ↔ False := ⟨fun h => by omega, fun h => h.elim⟩;obtain ⟨q, hq⟩ : ∃ q, q = c / 2 ^ i := ⟨_, rfl⟩;rw [← hq] at hf hd;have ht : Int.tmod (q : Int) 2 = ((q % 2 : Nat) : Int) := rfl;have h20 : ((2 : Int) = 0) ↔ False := by decide
 have he : (((q % 2 : Nat) : Int) == 1) = c.testBit i := by
  rw [Nat.testBit_eq_decide_div_mod_eq, ← hq, Bool.eq_iff_iff, beq_iff_eq, decide_eq_true_iff];omega
 have hbits : IntKind.bits .i64 = 64 := rfl;refine ao Tryz.func185 rfl (by rw [Tryz.ntmps185]; simp) fun w0 => ?_;rw [Tryz.ntmps185];have dX := nu;simp only [b4, bc, Arg.av, bw, b8, ints, ends];refine ab (dR fun K hK => ?_);(repeat refine eV ?_);refine aa (hK _ (wK [0, 1] ?_));clear hK K;have dX := And.intro dX (And.intro @hi0 (And.intro @hbits (And.intro @hm (And.intro @hm2 (And.intro @hf (And.intro @ht (And.intro @h20 @he)))))));refine ab (dR fun K hK => ?_);(repeat refine eV ?_);have dK := And.intro @hi0 (And.intro @hbits (And.intro @hm (And.intro @hm2 (And.intro @hf (And.intro @ht (And.intro @h20 @he))))));refine aa (hK _ (ay [4] ?_));clear hK K;exact ak (aq Tryz.results185 (.one (.plain _ _ rfl)) (by decide) rfl)
theorem Gy (n c : Nat) (hn : n ≤ 14) (hc : c < 2 ^ n) : DCalls Tryz.prog 136 [.c (.p (.int .i64 n)), .c (.p (.int .i64 c))] (fun r => r = [.own false [.sl true 3 1 ((chX n 0 c).map iC)]]) := by
 have hc2 : c ≤ 1000000 := by
  have : 2 ^ n ≤ 2 ^ 14 := Nat.pow_le_pow_right (by decide) hn;omega
 obtain ⟨p, hp⟩ : ∃ p : Nat → Bool, p = fun v => c.testBit (n - 1 - v) := ⟨_, rfl⟩;have hall : ep p n = chX n 0 c := by rw [hp]; exact R6 n c
 refine ao Tryz.func136 rfl (by rw [Tryz.ntmps136]; simp) fun w0 => ?_;rw [Tryz.ntmps136];have dX := nu;simp only [b4, bc, Arg.av, bw, b8, ints, ends];refine ab (dR fun K hK => ?_);(repeat refine eV ?_);refine aa (hK _ (wK [0, 1] ?_));clear hK K;refine ab (dR fun K hK => ?_);(repeat refine eV ?_);refine aa (hK _ (wK [0, 1, 5] ?_));clear hK K;refine ab ?_;refine ab (dR fun K hK => ?_);(repeat refine eV ?_);refine aa (hK _ (wK [0, 1, 5, 6] ?_));clear hK K;refine ae ?_;refine ii 5 3 1 (by decide) (by simp only [ac, pZ, simprocAttr]) [0, 1, 5, 6] (by simp only [ac, pZ, simprocAttr]; exact rfl) ?_;refine ax (X := Nat) (fun v => v ≤ n) (fun v => [(6, .c (.p (.int .i64 v)))]) (fun v => [((5, 0), ⟨none, [.sl true 3 1 ((ep p v).map iC)]⟩)]) (fun v => n - v) 0 (Nat.zero_le _) (by first | rfl | (simp only [ac, pZ, simprocAttr, Int.natCast_zero] <;> rfl)) ?_;rintro v hv;intro E hE;simp only [ac, pZ, simprocAttr] at hE;subst hE;refine ab ?_;refine ab (dR fun K hK => ?_);(repeat refine eV ?_);refine aa (hK _ (wK [0, 1, 5, 6, 9] ?_));clear hK K;refine dI ?_ ?_<;>intro hb
 ·have hv1 : v < n := by simpa using hb
  have e1 : (n : Int) - 1 - (v : Int) = ((n - 1 - v : Nat) : Int) := by omega
  have hpv : c.testBit (n - 1 - v) = p v := by rw [hp]
  have hpl := rj p v;refine af ?_;show DW _ _ _ _ _;refine ab (ae ?_);have dX := And.intro dX (@e1);refine ab (dR fun K hK => ?_);(repeat refine eV ?_);have dX := And.intro dX (@e1);refine cL rfl ⟨rfl, _, rfl⟩ (by omega) (by first | exact T4) (Rq c (n - 1 - v) (by omega) hc2) ?_;rintro _ rfl;(repeat refine eV ?_);have dK := @hpv;refine aa (hK _ (ay [0, 1, 5, 6, 17] ?_));clear hK K;refine dI ?_ ?_<;>intro hb
  ·have hns := gg (p := p) (k := v) hb;refine dR fun K hK => ?_;(repeat refine eV ?_);have dK := @gr;refine aa (hK _ (ay [0, 1, 5, 6] ?_));clear hK K;refine dR fun K hK => ?_;(repeat refine eV ?_);have dK := And.intro @bi @hns;refine aa (hK _ ?_);clear hK K;show ∃ x, _ ∧ _ ∧ Weak _ _;refine ⟨v + 1, ?_, ?_, an [0, 1, 5, 6]⟩
   ·omega
   ·omega
  ·have hns := ld (p := p) (k := v) hb;refine af ?_;show DW _ _ _ _ _;refine dR fun K hK => ?_;(repeat refine eV ?_);have dK := And.intro @bi @hns;refine aa (hK _ ?_);clear hK K;show ∃ x, _ ∧ _ ∧ Weak _ _;refine ⟨v + 1, ?_, ?_, an [0, 1, 5, 6]⟩
   ·omega
   ·omega
 ·have hv2 : v = n := by
   have : ¬ v < n := by simpa using hb
   omega
  refine am ?_;refine a7 [5] (by simp only [ac, pZ, simprocAttr]; exact rfl) ?_;refine ab (dR fun K hK => ?_);(repeat refine eV ?_);refine aa (hK _ (wK [4] ?_));clear hK K;exact ak (aq Tryz.results136 (.one (.own _ _ _ _ rfl rfl (own1 (bn _ _)))) (by decide) (by rw [hv2, hall]))
theorem R4 (n c : Nat) : (chX n 0 c).length ≤ n := uq n _ ((wm n 0 c).imp fun h => by omega) fun y hy => by have := sb n 0 c y hy; omega
theorem zu (f : NF) (N : Net) (k r : Nat) (hg : bm N = true) (h14 : N.ends.length ≤ 14) (h : LeastS (jz N) N.ends.length k r) : DCalls Tryz.prog 51 [.agg (bw f N)] (fun rr => rr = [.own false [.sl true 3 1 ((sbs N.ends.length 0 k r).map iC)], .c (.p (.bool true))]) := by
 obtain ⟨hs, hn, hids, hdg⟩ := fe hg;have c1 : decide ((N.ends.length : Int) > 14) = false := decide_eq_false (by omega);obtain ⟨P, hP⟩ : ∃ P, P = 2 ^ N.ends.length := ⟨_, rfl⟩;have hPl : P ≤ 16384 := by rw [hP]; exact (Nat.pow_le_pow_right (by decide) h14 : 2 ^ N.ends.length ≤ 2 ^ 14)
 have hi0 : ((N.ends.length : Int) < 0) ↔ False := ⟨fun h => by omega, fun h => h.elim⟩;have hm2 : min N.ends.length 64 = N.ends.length := by omega
 have hsh : (1 : Int) * 2 ^ N.ends.length = (P : Int) := by rw [hP, Int.natCast_pow]; simp
 have hbits : IntKind.bits .i64 = 64 := rfl;have hst := LcI.start (jz N) N.ends.length;rw [← hP] at hst;refine ao Tryz.func51 rfl (by rw [Tryz.ntmps51]; simp) fun w0 => ?_;rw [Tryz.ntmps51];have dX := nu;simp only [b4, bc, Arg.av, bw, b8, ints, ends];refine ab (dR fun K hK => ?_);(repeat refine eV ?_);refine aa (hK _ (wK [1] ?_));clear hK K;refine ab ?_;refine ab (dR fun K hK => ?_);(repeat refine eV ?_);refine cL rfl ⟨rfl, _, rfl⟩ (by omega) (by first | exact I6) (rn ⟨false, f.t1, f.o2, f.t2, false, f.t3, false, f.t4⟩ N) ?_;rintro _ rfl;(repeat refine eV ?_);have dX := And.intro dX (And.intro @hg @c1);(repeat refine eV ?_);have dK := And.intro @hg @c1;refine aa (hK _ (ay [1, 16] ?_));clear hK K;refine dI ?_ ?_<;>intro hb
 ·cases hb
 ·refine af ?_;show DW _ _ _ _ _;refine ab (dR fun K hK => ?_);(repeat refine eV ?_);refine aa (hK _ (wK [1, 4] ?_));clear hK K;refine ab (dR fun K hK => ?_);(repeat refine eV ?_);refine aa (hK _ (wK [1, 4, 5] ?_));clear hK K;refine ab ?_;have dX := And.intro dX (And.intro @hi0 (And.intro @hbits (And.intro @Int.toNat_natCast (And.intro @hm2 @hsh))));refine ab (dR fun K hK => ?_);(repeat refine eV ?_);have dK := And.intro @hi0 (And.intro @hbits (And.intro @Int.toNat_natCast (And.intro @hm2 @hsh)));refine aa (hK _ (ay [1, 4, 5, 6] ?_));clear hK K;refine ae ?_;refine ii 4 3 1 (by decide) (by simp only [ac, pZ, simprocAttr]) [1, 4, 5, 6] (by simp only [ac, pZ, simprocAttr]; exact rfl) ?_;refine ax (X := List Int × Bool × Nat) (fun z => LcI (jz N) N.ends.length z.1 z.2.1 z.2.2 ∧ z.2.2 ≤ P ∧ z.1.length ≤ 14) (fun z => [(5, .c (.p (.bool z.2.1))), (6, .c (.p (.int .i64 ((z.2.2 : Int) - 1))))]) (fun z => [((4, 0), ⟨none, [.sl true 3 1 (z.1.map iC)]⟩)]) (fun z => z.2.2) ([], false, P) ⟨hst, Nat.le_refl P, Nat.zero_le _⟩ (by first | rfl | (simp only [ac, pZ, simprocAttr, Int.natCast_zero] <;> rfl)) ?_;rintro ⟨best, found, b⟩ ⟨hI, hbP, hbl⟩;intro E hE;simp only [ac, pZ, simprocAttr] at hE;subst hE;dsimp only at hI hbP hbl ⊢;refine ab ?_;refine ab (dR fun K hK => ?_);(repeat refine eV ?_);refine aa (hK _ (wK [1, 4, 5, 6, 23] ?_));clear hK K;refine dI ?_ ?_<;>intro hb
  ·have hb1 : 1 ≤ b := by
    have h9 : (b : Int) - 1 ≥ 0 := by simpa using hb
    omega
   obtain ⟨q, rfl⟩ : ∃ q, b = q + 1 := ⟨b - 1, by omega⟩;have e1 : ((q + 1 : Nat) : Int) - 1 = (q : Int) := by omega
   have hqP : q < 2 ^ N.ends.length := by omega
   have hcl := R4 N.ends.length q;have htk := hI.take hqP;have hps := hI.pass;obtain ⟨T, hT⟩ : ∃ T, T = chX N.ends.length 0 q := ⟨_, rfl⟩;rw [← hT] at htk hps hcl;rw [e1];refine af ?_;show DW _ _ _ _ _;refine ab (ae ?_);refine ab (dR fun K hK => ?_);(repeat refine eV ?_);refine cL rfl ⟨rfl, _, rfl⟩ (by omega) (by first | exact Ub) (Gy N.ends.length q h14 hqP) ?_;rintro _ rfl;(repeat refine eV ?_);have dK := (Eq.symm hT);refine aa (hK _ (ay [1, 4, 5, 6, 7] ?_));clear hK K
   cases found with
   | false =>
    refine ab (dR fun K hK => ?_);(repeat refine eV ?_);refine cgF rfl rfl ⟨rfl, _, rfl⟩ (by omega) (by first | exact Of) (xz ⟨false, f.t1, f.o2, f.t2, false, f.t3, false, f.t4⟩ N true 3 T hg) ?_;rintro _ rfl;(repeat refine eV ?_);refine aa (hK _ (wK [1, 4, 5, 6, 7, 44] ?_));clear hK K;refine dI ?_ ?_<;>intro hb
    ·have hI2 := htk hb (fun h => by cases h);refine ab (dR fun K hK => ?_);(repeat refine eV ?_);refine aa (hK _ (wK [1, 4, 6] ?_));clear hK K;refine dR fun K hK => ?_;(repeat refine eV ?_);refine aa (hK _ (wK [1, 4, 5, 6] ?_));clear hK K;refine dR fun K hK => ?_;(repeat refine eV ?_);refine aa (hK _ ?_);clear hK K;show ∃ x, _ ∧ _ ∧ Weak _ _;refine ⟨(T, true, q), ?_, ?_, Dn [1, 4, 5, 6]⟩
     ·exact ⟨hI2, by dsimp only; omega, by dsimp only; omega⟩
     ·dsimp only; omega
    ·have hI2 := hps (.inl hb);refine af ?_;show DW _ _ _ _ _;refine dR fun K hK => ?_;(repeat refine eV ?_);refine aa (hK _ ?_);clear hK K;show ∃ x, _ ∧ _ ∧ Weak _ _;refine ⟨(best, false, q), ?_, ?_, Dn [1, 4, 5, 6]⟩
     ·exact ⟨hI2, by dsimp only; omega, hbl⟩
     ·dsimp only; omega
   | true =>
    by_cases hlt : T.length < best.length
    ·have d1 : decide ((T.length : Int) < (best.length : Int)) = true := decide_eq_true (by omega);have dX := And.intro dX (@d1);refine ab (dR fun K hK => ?_);(repeat refine eV ?_);have dX := And.intro dX (@d1);refine cgF rfl rfl ⟨rfl, _, rfl⟩ (by omega) (by first | exact Of) (xz ⟨false, f.t1, f.o2, f.t2, false, f.t3, false, f.t4⟩ N true 3 T hg) ?_;rintro _ rfl;(repeat refine eV ?_);have dK := @d1;refine aa (hK _ (ay [1, 4, 5, 6, 7, 44] ?_));clear hK K;refine dI ?_ ?_<;>intro hb
     ·have hI2 := htk hb (fun _ => hlt);refine ab (dR fun K hK => ?_);(repeat refine eV ?_);refine aa (hK _ (wK [1, 4, 6] ?_));clear hK K;refine dR fun K hK => ?_;(repeat refine eV ?_);refine aa (hK _ (wK [1, 4, 5, 6] ?_));clear hK K;refine dR fun K hK => ?_;(repeat refine eV ?_);refine aa (hK _ ?_);clear hK K;show ∃ x, _ ∧ _ ∧ Weak _ _;refine ⟨(T, true, q), ?_, ?_, Dn [1, 4, 5, 6]⟩
      ·exact ⟨hI2, by dsimp only; omega, by dsimp only; omega⟩
      ·dsimp only; omega
     ·have hI2 := hps (.inl hb);refine af ?_;show DW _ _ _ _ _;refine dR fun K hK => ?_;(repeat refine eV ?_);refine aa (hK _ ?_);clear hK K;show ∃ x, _ ∧ _ ∧ Weak _ _;refine ⟨(best, true, q), ?_, ?_, Dn [1, 4, 5, 6]⟩
      ·exact ⟨hI2, by dsimp only; omega, hbl⟩
      ·dsimp only; omega
    ·have d1 : decide ((T.length : Int) < (best.length : Int)) = false := decide_eq_false (by omega);have hI2 := hps (.inr ⟨rfl, hlt⟩);have dX := And.intro dX (@d1);refine ab (dR fun K hK => ?_);(repeat refine eV ?_);have dX := And.intro dX (@d1);refine csF ?_;(repeat refine eV ?_);have dX := And.intro dX (@d1);(repeat refine eV ?_);have dK := @d1;refine aa (hK _ (ay [1, 4, 5, 6, 7, 44] ?_));clear hK K;refine dI ?_ ?_<;>intro hb
     ·cases hb
     ·refine af ?_;show DW _ _ _ _ _;refine dR fun K hK => ?_;(repeat refine eV ?_);refine aa (hK _ ?_);clear hK K;show ∃ x, _ ∧ _ ∧ Weak _ _;refine ⟨(best, true, q), ?_, ?_, Dn [1, 4, 5, 6]⟩
      ·exact ⟨hI2, by dsimp only; omega, hbl⟩
      ·dsimp only; omega
  ·have hb0 : b = 0 := by
    have h9 : ¬ (b : Int) - 1 ≥ 0 := by simpa using hb
    omega
   rw [hb0] at hI;obtain ⟨-, hbe⟩ := hI.done h;refine am ?_;refine a7 [4] (by simp only [ac, pZ, simprocAttr]; exact rfl) ?_;refine ab (dR fun K hK => ?_);(repeat refine eV ?_);refine aa (hK _ (wK [2, 3] ?_));clear hK K;exact ak (aq Tryz.results51 (.two (.own _ _ _ _ rfl rfl (own1 (bn _ _))) (.plain _ _ rfl)) (by decide) (by rw [hbe]))
end
section
open Go Go.RowKit Go.Sort
def tC (b : Bool) : List C := [.p (.bool b)]
def bL (c : Nat → Bool) (n : Nat) : List (List C) := (List.range n).map fun w => tC (c w)
theorem Xn (c : Nat → Bool) (n : Nat) : (bL c n).length = n := by simp [bL]
theorem Xs {c : Nat → Bool} {n k : Nat} (h : k < n) : (bL c n).getD k [] = [.p (.bool (c k))] := by simp [bL, tC, h]
theorem Xu {c : Nat → Bool} {n k : Nat} (h : k < n) : bu (bL c n) k 0 = some (.p (.bool (c k))) := bb.2 ⟨tC (c k), by simp [bL, h], rfl⟩
end
end Go.Proofs.YtolpiolnhgpjjaaGreat
