/- FnExactChainTables: for every table, every table, every network the statement's function returns true, and its arguments read behind the call as before. No condition. -/
import Derived.Test.YtjoimponfeofkaaGreatCLaChainTables
import Derived.Test.YtjoimponfeofkaaGreatCRdr
import Derived.Test.YtjoimponfeofkaaGreatRows
import Derived.OpenShut
import Derived.ShutString
import Derived.ChangeOld
namespace Go.Proofs.YtjoimponfeofkaaGreat.fnExactChainTables
open Go.ChangeShapes Go.WideShapes Go.ChangeAt Go.RowKit Go.Joins
set_option linter.unusedVariables false

theorem own : ownKnob Tryz.prog.godebug = none := by kernel_rfl
theorem laidOut : laidOutB Tryz.prog = true := by kernel_rfl
theorem cInt : Tryz.prog.cellsOf 3 = 1 := by kernel_rfl
theorem cStr : Tryz.prog.cellsOf 9 = 1 := by kernel_rfl
theorem cRow : Tryz.prog.cellsOf 82 = 2 := by kernel_rfl
theorem cTab : Tryz.prog.cellsOf 24 = 2 := by kernel_rfl
theorem cEnd : Tryz.prog.cellsOf 129 = 2 := by kernel_rfl
theorem cEnds : Tryz.prog.cellsOf 84 = 1 := by kernel_rfl
theorem cNet : Tryz.prog.cellsOf 28 = 3 := by kernel_rfl

set_option maxRecDepth 100000 in
theorem lifted (os : Os) (started : os.Started) (H : Type) (enc : TypeId × Value → H) :
    ReturnsInHanded {} Tryz.checked os 7 .any (Rows.fnExactChainTablesSpec.pre6 enc Tryz.prog Tryz.f7 Rows.fnExactChainTablesRow.domain false) (Rows.fnExactChainTablesSpec.post enc Tryz.prog Tryz.f7 false true false false) := by
  refine returnsInHanded_of_change (C := Tryz.checked) own started (by kernel_rfl) Tryz.func7
    (ChangeSpec.witness6 (enc := enc) (C := Tryz.checked) false ⟨#[], #[.agg #[.int .i64 0, .slice none 0 0], .agg #[.int .i64 0, .slice none 0 0], .agg #[.slice none 0 0, .slice none 0 0, .slice none 0 0]], []⟩ 8 (by kernel_rfl) (by kernel_rfl) (by kernel_rfl) (by kernel_rfl)) ?_
  intro W base args ds gs before hval0 hW hcnd _
  have hval : ∀ (j : Nat) t v, Tryz.f7.params[j]? = some t → args[j]? = some v → Value.okWide Tryz.prog W .any base t v := hval0
  have hW' := hW
  obtain ⟨p, q, hA0, hV, rfl, hfz, hnd⟩ := hW
  have hA : DataW.TrodAll enc Tryz.prog W 0 (fun _ => true) true Tryz.f7.params.toList args.toList ds p := hA0
  rw [Tryz.params7] at hA hval
  obtain ⟨v0, vs0, d0, ds0, p0, q0, hargs, rfl, rfl, h0, r0⟩ := trodAll_cons hA
  obtain ⟨v1, vs1, d1, ds1, p1, q1, rfl, rfl, rfl, h1, r1⟩ := trodAll_cons r0
  obtain ⟨v2, vs2, d2, ds2, p2, q2, rfl, rfl, rfl, h2, r2⟩ := trodAll_cons r1
  obtain ⟨rfl, rfl, rfl⟩ := trodAll_nil r2
  obtain rfl : args = #[v0, v1, v2] := by cases args; simp_all
  obtain ⟨rfl, rfl⟩ := trodVars_none hV
  have k0 := h0
  have k1 := h1
  have k2 := h2
  have lt0 : ∀ x ∈ p0, x.block < W.heap.size := by obtain ⟨m, hm⟩ := k0; exact DataW.trod_lt m _ _ _ hm
  have lt1 : ∀ x ∈ p1, x.block < W.heap.size := by obtain ⟨m, hm⟩ := k1; exact DataW.trod_lt m _ _ _ hm
  have lt2 : ∀ x ∈ p2, x.block < W.heap.size := by obtain ⟨m, hm⟩ := k2; exact DataW.trod_lt m _ _ _ hm
  obtain ⟨D0, u0, rows0, rfl, hR0, hS0⟩ : ∃ (D : Int) (u : Value) (rows : List RowT), v0 = .agg #[.int .i64 D, u] ∧ SlR encR W anyB u rows ∧ ∀ j, j < rows.length → (ga rows j).1.size ≤ 9223372036854775807 := by
    obtain ⟨c0, c1, y0, y1, n, rfl, -, -, e0, e1⟩ := open_agg2 Tryz.underlying24 (by kernel_rfl) cTab (hval 0 24 v0 rfl rfl) h0
    obtain ⟨D, f0, -, -⟩ := DataW.trod_int Tryz.underlying3 e0
    obtain ⟨a1, rows, f1, g1, g2⟩ := read_rows Tryz.underlying22 Tryz.underlying82 cRow rfl rfl rfl rfl Tryz.underlying9 Tryz.underlying3 cStr cInt e1
    simp at f0 f1
    subst f0 f1
    exact ⟨D, _, rows, rfl, g1, g2⟩
  obtain ⟨D1, u1, rows1, rfl, hR1, hS1⟩ : ∃ (D : Int) (u : Value) (rows : List RowT), v1 = .agg #[.int .i64 D, u] ∧ SlR encR W anyB u rows ∧ ∀ j, j < rows.length → (ga rows j).1.size ≤ 9223372036854775807 := by
    obtain ⟨c0, c1, y0, y1, n, rfl, -, -, e0, e1⟩ := open_agg2 Tryz.underlying24 (by kernel_rfl) cTab (hval 1 24 v1 rfl rfl) h1
    obtain ⟨D, f0, -, -⟩ := DataW.trod_int Tryz.underlying3 e0
    obtain ⟨a1, rows, f1, g1, g2⟩ := read_rows Tryz.underlying22 Tryz.underlying82 cRow rfl rfl rfl rfl Tryz.underlying9 Tryz.underlying3 cStr cInt e1
    simp at f0 f1
    subst f0 f1
    exact ⟨D, _, rows, rfl, g1, g2⟩
  obtain ⟨N2, hN2⟩ : ∃ N, NetR W anyB v2 N := by
    obtain ⟨c0, c1, c2, y0, y1, y2, n, rfl, -, -, e0, e1, e2⟩ := open_agg3 Tryz.underlying28 (by kernel_rfl) cNet (hval 2 28 v2 rfl rfl) h2
    obtain ⟨a0, es, f0, g0⟩ := read_endss Tryz.underlying25 cEnds Tryz.underlying84 Tryz.underlying129 cEnd rfl rfl rfl rfl Tryz.underlying3 cInt e0
    obtain ⟨a1, is, f1, g1⟩ := read_ints Tryz.underlying26 Tryz.underlying3 cInt e1
    obtain ⟨a2, ns, f2, g2⟩ := read_ints Tryz.underlying26 Tryz.underlying3 cInt e2
    simp at f0 f1 f2
    subst f0 f1 f2
    exact ⟨⟨es, is, ns⟩, _, _, _, rfl, g0, g1, g2⟩
  clear hA0 hval0
  refine (lawChainTables u0 D0 rows0 u1 D1 rows1 v2 N2 W hR0 hS0 hR1 hS1 hN2).mono fun e W' ⟨he, bel⟩ => ?_
  subst he
  exact ⟨_, rfl, _, _, _, [], _, [], hW', trodAll_mk1 (shut_bool Tryz.underlying4 _), (trodAll_cons_mk (Below.trod laidOut (by kernel_rfl) (of_decide_eq_true (by kernel_rfl)) k0 bel lt0) (trodAll_cons_mk (Below.trod laidOut (by kernel_rfl) (of_decide_eq_true (by kernel_rfl)) k1 bel lt1) (trodAll_cons_mk (Below.trod laidOut (by kernel_rfl) (of_decide_eq_true (by kernel_rfl)) k2 bel lt2) trodAll_mk0))), rfl, bel.frame _, fun h => by cases h⟩

theorem over : Rows.fnExactChainTablesRow.holds Tryz.pinned (OpenSpec.ofChange Rows.fnExactChainTablesSpec) :=
  OpenClaim.holds_of_wide 7 Tryz.f7 rfl rfl rfl rfl rfl rfl rfl ⟨rfl, rfl, rfl, rfl, rfl⟩ rfl rfl rfl rfl rfl (by kernel_rfl) Tryz.func7 (by kernel_rfl)
    (of_decide_eq_true (by kernel_rfl)) (by unfold Func.isWrapper; first | (rw [if_pos (by decide +kernel)]; kernel_rfl) | (rw [if_neg (by decide +kernel)]; exact ⟨rfl, rfl⟩))
    (fun os started H enc _ => lifted os started H enc)

theorem proved : Rows.FnExactChainTablesSaid := over
#print axioms proved
end Go.Proofs.YtjoimponfeofkaaGreat.fnExactChainTables
