/- FnExactCountUp: for every network, every list of parents the statement's function returns true, and its arguments read behind the call as before. No condition. -/
import Derived.Test.YtcjghlplkbpjcaaLaCount
import Derived.Test.YtcjghlplkbpjcaaRows
import Derived.OpenShut
import Derived.ShutString
import Derived.ChangeOld
namespace Go.Proofs.Ytcjghlplkbpjcaa.fnExactCountUp
open Go.ChangeShapes Go.WideShapes Go.ChangeAt Go.RowKit Go.Joins
set_option linter.unusedVariables false

theorem own : ownKnob Try.prog.godebug = none := by kernel_rfl
theorem laidOut : laidOutB Try.prog = true := by kernel_rfl
theorem cInt : Try.prog.cellsOf 3 = 1 := by kernel_rfl
theorem cEnd : Try.prog.cellsOf 189 = 2 := by kernel_rfl
theorem cEnds : Try.prog.cellsOf 160 = 1 := by kernel_rfl
theorem cNet : Try.prog.cellsOf 38 = 3 := by kernel_rfl

set_option maxRecDepth 100000 in
theorem lifted (os : Os) (started : os.Started) (H : Type) (enc : TypeId × Value → H) :
    ReturnsInHanded {} Try.checked os 6 .any (Rows.fnExactCountUpSpec.pre6 enc Try.prog Try.f6 Rows.fnExactCountUpRow.domain false) (Rows.fnExactCountUpSpec.post enc Try.prog Try.f6 false true false false) := by
  refine returnsInHanded_of_change (C := Try.checked) own started (by kernel_rfl) Try.func6
    (ChangeSpec.witness6 (enc := enc) (C := Try.checked) false ⟨#[], #[.agg #[.slice none 0 0, .slice none 0 0, .slice none 0 0], .slice none 0 0], []⟩ 8 (by kernel_rfl) (by kernel_rfl) (by kernel_rfl) (by kernel_rfl)) ?_
  intro W base args ds gs before hval0 hW hcnd _
  have hval : ∀ (j : Nat) t v, Try.f6.params[j]? = some t → args[j]? = some v → Value.okWide Try.prog W .any base t v := hval0
  have hW' := hW
  obtain ⟨p, q, hA0, hV, rfl, hfz, hnd⟩ := hW
  have hA : DataW.TrodAll enc Try.prog W 0 (fun _ => true) true Try.f6.params.toList args.toList ds p := hA0
  rw [Try.params6] at hA hval
  obtain ⟨v0, vs0, d0, ds0, p0, q0, hargs, rfl, rfl, h0, r0⟩ := trodAll_cons hA
  obtain ⟨v1, vs1, d1, ds1, p1, q1, rfl, rfl, rfl, h1, r1⟩ := trodAll_cons r0
  obtain ⟨rfl, rfl, rfl⟩ := trodAll_nil r1
  obtain rfl : args = #[v0, v1] := by cases args; simp_all
  obtain ⟨rfl, rfl⟩ := trodVars_none hV
  have k0 := h0
  have k1 := h1
  have lt0 : ∀ x ∈ p0, x.block < W.heap.size := by obtain ⟨m, hm⟩ := k0; exact DataW.trod_lt m _ _ _ hm
  have lt1 : ∀ x ∈ p1, x.block < W.heap.size := by obtain ⟨m, hm⟩ := k1; exact DataW.trod_lt m _ _ _ hm
  obtain ⟨N, hN⟩ : ∃ N, NetR W anyB v0 N := by
    obtain ⟨c0, c1, c2, y0, y1, y2, n, rfl, -, -, e0, e1, e2⟩ := open_agg3 Try.underlying38 (by kernel_rfl) cNet (hval 0 38 v0 rfl rfl) h0
    obtain ⟨a0, es, f0, g0⟩ := read_endss Try.underlying35 cEnds Try.underlying160 Try.underlying189 cEnd rfl rfl rfl rfl Try.underlying3 cInt e0
    obtain ⟨a1, is, f1, g1⟩ := read_ints Try.underlying36 Try.underlying3 cInt e1
    obtain ⟨a2, ns, f2, g2⟩ := read_ints Try.underlying36 Try.underlying3 cInt e2
    simp at f0 f1 f2
    subst f0 f1 f2
    exact ⟨⟨es, is, ns⟩, _, _, _, rfl, g0, g1, g2⟩
  obtain ⟨ps, hP⟩ : ∃ ps, IntsR W anyB v1 ps := by
    obtain ⟨a1, len1, cap1, rfl⟩ := okWide_slice Try.underlying36 (hval 1 36 v1 rfl rfl)
    obtain ⟨fuel, hf⟩ := h1
    obtain ⟨v, xs, e, hr⟩ := read_ints Try.underlying36 Try.underlying3 cInt hf
    simp [Value.cells] at e
    subst e
    exact ⟨xs, hr⟩
  clear hA0 hval0
  refine (lawCountUp v0 v1 N ps W hN hP).mono fun e W' ⟨he, bel⟩ => ?_
  subst he
  exact ⟨_, rfl, _, _, _, [], _, [], hW', trodAll_mk1 (shut_bool Try.underlying4 _), (trodAll_cons_mk (Below.trod laidOut (by kernel_rfl) (of_decide_eq_true (by kernel_rfl)) k0 bel lt0) (trodAll_cons_mk (Below.trod laidOut (by kernel_rfl) (of_decide_eq_true (by kernel_rfl)) k1 bel lt1) trodAll_mk0)), rfl, bel.frame _, fun h => by cases h⟩

theorem over : Rows.fnExactCountUpRow.holds Try.pinned (OpenSpec.ofChange Rows.fnExactCountUpSpec) :=
  OpenClaim.holds_of_wide 6 Try.f6 rfl rfl rfl rfl rfl rfl rfl ⟨rfl, rfl, rfl, rfl, rfl⟩ rfl rfl rfl rfl rfl (by kernel_rfl) Try.func6 (by kernel_rfl)
    (of_decide_eq_true (by kernel_rfl)) (by unfold Func.isWrapper; first | (rw [if_pos (by decide +kernel)]; kernel_rfl) | (rw [if_neg (by decide +kernel)]; exact ⟨rfl, rfl⟩))
    (fun os started H enc _ => lifted os started H enc)

theorem proved : Rows.FnExactCountUpSaid := over
#print axioms proved
end Go.Proofs.Ytcjghlplkbpjcaa.fnExactCountUp
