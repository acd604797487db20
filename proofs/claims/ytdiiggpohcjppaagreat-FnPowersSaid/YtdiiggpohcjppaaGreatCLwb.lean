/- What the laws over codes have in common. -/
import Derived.Test.YtdiiggpohcjppaaGreatCJn22
import Derived.Test.YtdiiggpohcjppaaGreatCDcu
import Derived.Test.YtdiiggpohcjppaaGreatCJn6
import Derived.Test.YtdiiggpohcjppaaGreatCDt
set_option linter.unusedSimpArgs false
set_option linter.unusedVariables false
namespace Go.Proofs.YtdiiggpohcjppaaGreat
open Go Go.RowKit
def jp (bs : List Int) : Prop := bs.length ≤ 9223372036854775807 ∧ ∀ x ∈ bs, 0 ≤ x ∧ x ≤ 255
def Sq (a b : List Int) : Bool := decide ((a.length : Int) > 1048576) || decide ((b.length : Int) > 1048576 - (a.length : Int))
theorem U4 {a b : List Int} (h : Sq a b = false) (ha : jp a) (hb : jp b) : de a ∧ de b := by
 simp only [Sq, Bool.or_eq_false_iff, decide_eq_false_iff_not] at h
 exact ⟨⟨by omega, ha.2⟩, ⟨by omega, hb.2⟩⟩
def zBLwb1 := PLift.up (And.intro zr (And.intro I5 @trivial))
theorem Xg : type_of% zBLwb1.down := zBLwb1.down
set_option maxRecDepth 8000 in
set_option maxHeartbeats 0 in
theorem Z0 (a b : List Int) (ha : jp a) : DCalls Tryz.prog 6 [.c (f5 a), .c (f5 b)] (fun r => r = [.c (.p (.bool (Sq a b)))]) := by
 have hal := ha.1
 refine ao Tryz.func6 rfl (by rw [Tryz.ntmps6]; simp) fun w0 => ?_
 rw [Tryz.ntmps6]
 have dfx := Xg
 simp only [ce, be, Arg.av, f5]
 refine ab (dwR fun K hK => ?_)
 repeat refine evF ?_
 refine aa (hK _ (dwK [0, 1] ?_))
 clear hK K
 refine ab (dwR fun K hK => ?_)
 repeat (apply cg; (focus exact rfl); (focus (simp (disch := first | omega | (intros; contradiction)) only [ac, bd, C.at, C.put, List.dropLast, List.isPrefixOf, simprocAttr, zr, I5 , zr, I5]; exact rfl)))
 obtain h | h := Bool.eq_false_or_eq_true (decide ((a.length : Int) > 1048576))
 ·repeat (apply cg; (focus exact rfl); (focus (simp (disch := first | omega | (intros; contradiction)) only [ac, bd, C.at, C.put, List.dropLast, List.isPrefixOf, simprocAttr, zr, I5 , h, zr, I5]; exact rfl)))
  have dfk := @h
  refine aa (hK _ (a8 [4] ?_))
  clear hK K
  exact ak (aq Tryz.results6 (.one (.plain _ _ rfl)) (by decide) (by simp only [Sq, h, Bool.true_or]))
 ·repeat (apply cg; (focus exact rfl); (focus (simp (disch := first | omega | (intros; contradiction)) only [ac, bd, C.at, C.put, List.dropLast, List.isPrefixOf, simprocAttr, zr, I5 , h, zr, I5]; exact rfl)))
  have dfk := @h
  refine aa (hK _ (a8 [4] ?_))
  clear hK K
  exact ak (aq Tryz.results6 (.one (.plain _ _ rfl)) (by decide) (by simp only [Sq, h, Bool.false_or]))
theorem Ig {w : World} {v : Value} {L : Nat} (h : It w v L) : ∃ bs, jp bs ∧ RO w (fun b => b < w.heap.size) (f5 bs) v := by
 obtain ⟨A, c, rfl, hL, ⟨hc1, hc2⟩, hx⟩ := h
 cases L with
 | zero => exact ⟨[], ⟨by simp, fun x hx => by cases hx⟩, RO.nil false _ 1 A c hc2⟩
 | succ L =>
  obtain ⟨b, off, rfl, hb⟩ := hx (by omega)
  have hb' : ∀ j, ∃ z : Int, j < L + 1 → 0 ≤ z ∧ z ≤ 255 ∧ w.cell? ⟨b, off + j, none⟩ = some (.int .u8 z) := fun j => by
   by_cases hj : j < L + 1
   ·obtain ⟨z, hz⟩ := hb j hj; exact ⟨z, fun _ => hz⟩
   ·exact ⟨0, fun h => absurd h hj⟩
  obtain ⟨z, hz⟩ := Classical.skolem.1 hb'
  have hlen : ((List.range (L + 1)).map z).length = L + 1 := by simp
  have hrow : ∀ {j q : Nat} {cc : C}, b8 (((List.range (L + 1)).map z).map bC) j q = some cc → q = 0 ∧ j < L + 1 ∧ cc = .p (.int .u8 (z j)) := fun {j q cc} hjq => by
   obtain ⟨r, g1, g2⟩ := bh.1 hjq
   rw [List.map_map, List.getElem?_map] at g1
   cases hj : (List.range (L + 1))[j]? with
   | none => rw [hj] at g1; cases g1
   | some x =>
    rw [hj] at g1
    cases g1
    have hl := List.getElem?_eq_some_iff.1 hj
    have hlt : j < L + 1 := by simpa using hl.1
    have hx : x = j := by rw [← hl.2]; simp
    subst hx
    cases q with
    | zero => simp [bC] at g2; exact ⟨rfl, hlt, g2.symm⟩
    | succ q => simp [bC] at g2
  refine ⟨(List.range (L + 1)).map z, ⟨by rw [hlen]; omega, fun x hx => ?_⟩, ?_⟩
  ·obtain ⟨j, hj, rfl⟩ := List.mem_map.1 hx
   have := hz j (by simpa using hj)
   exact ⟨this.1, this.2.1⟩
  ·have := RO.sl (w := w) (S := fun b => b < w.heap.size) false 5 1 (((List.range (L + 1)).map z).map bC) b off c (fun j _ => .int .u8 (z j)) (fun r hr => by obtain ⟨y, -, rfl⟩ := List.mem_map.1 hr; rfl) (by simpa using hc1) hc2 (au (hz 0 (by omega)).2.2) (au (hz 0 (by omega)).2.2) (fun j q cc hjq => by
    obtain ⟨rfl, hj, rfl⟩ := hrow hjq
    rw [Nat.mul_one, Nat.add_zero]; exact (hz j hj).2.2) (fun j q cc hjq => by
    obtain ⟨rfl, hj, rfl⟩ := hrow hjq
    exact .p _)
   rwa [List.length_map, hlen] at this
theorem W7 {P : Program} {f : FuncId} (h : ∀ a b, jp a → jp b → dt P f [.c (f5 a), .c (f5 b)] (fun r => r = [.c (.p (.bool true))])) {v0 v1 : Value} {L0 L1 : Nat} {w : World} (h0 : It w v0 L0) (h1 : It w v1 L1) : Calls P f #[v0, v1] w (o5 w (.bool true)) := by
 obtain ⟨a, ha, ra⟩ := Ig h0
 obtain ⟨b, hb, rb⟩ := Ig h1
 have hc := h a b ha hb
 rw [od (by simp [Arg.isIo])] at hc
 refine (hc w #[v0, v1] (fun b => b < w.heap.size) rfl (fun _ h => h) fun i x hx => ?_).mono ?_
 ·match i with
  | 0 => cases hx; exact ⟨_, rfl, ra⟩
  | 1 => cases hx; exact ⟨_, rfl, rb⟩
  | i + 2 => simp at hx
 ·rintro e w' ⟨r, v, val, S, rfl, rfl, hr⟩
  have hsv : RO w' S (.p (.bool true)) v := hr.sv
  rw [fl hsv]
  exact ⟨rfl, hr.below⟩
end Go.Proofs.YtdiiggpohcjppaaGreat
