/- The program's helpers on views, over data: IsNetwork, hasNode, nodesOk, Max, classCount -/
import Derived.Test.YtlaahgdikiiahaaCJn28
import Derived.Test.YtlaahgdikiiahaaShelf
import Derived.Test.YtlaahgdikiiahaaCJn40
import Derived.Test.YtlaahgdikiiahaaCIm4
set_option linter.unusedSimpArgs false
set_option linter.unusedVariables false
namespace Go.Proofs.Ytlaahgdikiiahaa
open Go Go.RowKit
theorem IsNetwork_d (f : NF) (N : Net) (hi : N.ids.length ≤ 2097152) : DCalls Try.prog 26 [.agg (netC f N)] (fun r => r = [.c (.p (.bool (goodB N)))]) := dcalls_v fun w vs h1 h2 => by
 obtain ⟨u, rfl, g1⟩ := args1 h1 h2
 exact IsNetwork_any u N w (argN g1) hi
theorem hasNode_d (f : NF) (N : Net) (v : Int) (hl : N.ends.length ≤ 2097152) : DCalls Try.prog 27 [.agg (netC f N), .c (.p (.int .i64 v))] (fun r => r = [.c (.p (.bool (inB v 0 ((N.ends.length : Int) - 1))))]) := dcalls_v fun w vs h1 h2 => by
 obtain ⟨u, v, rfl, g1, g2⟩ := args2 h1 h2
 rw [argI g2]
 obtain ⟨ve, vi, vn, rfl, he, -, -⟩ := argN g1
 obtain ⟨A, c, rfl, -⟩ := he
 exact hasNode_any A _ c vi vn _ w (by omega)
theorem mayMax : callOk Try.prog 60 = true := by kernel_rfl
theorem Max_d (o : Bool) (tt : TypeId) (xs : List Int) (hp : 0 < xs.length) : DCalls Try.prog 60 [.c (ints o tt xs)] (fun r => r = [.c (.p (.int .i64 (Lib.maxOf xs)))]) := dcalls_v fun w vs h1 h2 => by
 obtain ⟨u, rfl, g1⟩ := args1 h1 h2
 have h := RO_ints g1
 have hb := h.bound
 obtain ⟨A, c, rfl, hnc, hm, hx⟩ := h
 obtain ⟨b, off, rfl, -, hc⟩ := hx hp
 refine (Try.slices_Max_int b off xs.length c xs w hp (Nat.le_refl _) hb hc).mono ?_
 rintro e w1 ⟨rfl, rfl⟩
 exact ⟨by rw [List.take_length], Below.refl _ _⟩
theorem many_max (xs : List Int) (hp : 0 < xs.length) (h0 : ∀ x ∈ xs, 0 ≤ x) : Lib.maxOf xs + 1 = manyOf xs := by
 have key : ∀ (zs : List Int) (a : Int), zs.foldl max a + 1 = zs.foldl (fun n k => mst n (k + 1)) (a + 1) := by
  intro zs
  induction zs with
  | nil => intro a; rfl
  | cons z zs ih =>
   intro a
   simp only [List.foldl_cons]
   rw [ih]
   congr 1
   unfold mst
   split <;> omega
 match xs, hp with
 | z :: zs, _ =>
  have hm : Lib.maxOf (z :: zs) = zs.foldl max z := by simp [Lib.maxOf]
  rw [hm, key]
  unfold manyOf
  simp only [List.foldl_cons]
  congr 1
  have := h0 z List.mem_cons_self
  unfold mst
  split <;> omega
theorem max_in (xs : List Int) (hp : 0 < xs.length) (m : Int) (h0 : ∀ x ∈ xs, 0 ≤ x ∧ x < m) : 0 ≤ Lib.maxOf xs ∧ Lib.maxOf xs < m := by
 have key : ∀ (zs : List Int) (a : Int), (0 ≤ a ∧ a < m) → (∀ x ∈ zs, 0 ≤ x ∧ x < m) → 0 ≤ zs.foldl max a ∧ zs.foldl max a < m := by
  intro zs
  induction zs with
  | nil => intro a h _; exact h
  | cons z zs ih =>
   intro a h h1
   have := h1 z List.mem_cons_self
   exact ih _ (by omega) fun x hx => h1 x (List.mem_cons_of_mem _ hx)
 match xs, hp with
 | z :: zs, _ =>
  have hm : Lib.maxOf (z :: zs) = zs.foldl max z := by simp [Lib.maxOf]
  rw [hm]
  exact key zs z (h0 z List.mem_cons_self) fun x hx => h0 x (List.mem_cons_of_mem _ hx)
theorem dfxDpi : type_of% (And.intro tab27 (And.intro tab25 (And.intro tab3 (And.intro tab24 (And.intro @if_pos.{1} (And.intro @netO.eq_1 (And.intro @rowi (And.intro @getDi @trivial)))))))) := And.intro tab27 (And.intro tab25 (And.intro tab3 (And.intro tab24 (And.intro @if_pos.{1} (And.intro @netO.eq_1 (And.intro @rowi (And.intro @getDi @trivial)))))))
set_option maxRecDepth 8000 in
set_option maxHeartbeats 0 in
theorem classCount_d (o : Bool) (tt : TypeId) (xs : List Int) (hp : 0 < xs.length) (h0 : ∀ x ∈ xs, 0 ≤ x ∧ x < 1000000) : DCalls Try.prog 39 [.c (ints o tt xs)] (fun r => r = [.c (.p (.int .i64 (manyOf xs)))]) := by
 have hm := max_in xs hp _ h0
 rw [← many_max xs hp fun x hx => (h0 x hx).1]
 refine dcalls_of Try.func39 rfl (by rw [Try.ntmps39]; simp) fun w0 => ?_
 rw [Try.ntmps39]
 have dfx := dfxDpi
 simp only [initE, argsL, Arg.av, ints]
 refine dw_seq (dwR fun K hK => ?_)
 repeat refine evF ?_
 refine aops_end (hK _ (dwK [0] ?_))
 clear hK K
 refine dw_seq (dwR fun K hK => ?_)
 repeat refine evF ?_
 refine clF rfl ⟨rfl, _, rfl⟩ (by omega) (by first | exact mayMax) (Max_d o tt xs hp) ?_
 rintro _ rfl
 repeat refine evF ?_
 refine aops_end (hK _ (dwK [2] ?_))
 clear hK K
 exact dw_ret (fin_ret Try.results39 (.one (.plain _ _ rfl)) (by decide) rfl)
set_option maxRecDepth 8000 in
set_option maxHeartbeats 0 in
theorem nodesOk_d (f g : NF) (M N : Net) (v u : Int) (hM : M.ids.length ≤ 2097152) (hN : N.ids.length ≤ 2097152) (hlM : M.ends.length ≤ 2097152) (hlN : N.ends.length ≤ 2097152) :
 DCalls Try.prog 19 [.agg (netC f M), .c (.p (.int .i64 v)), .agg (netC g N), .c (.p (.int .i64 u))] (fun r => r = [.c (.p (.bool (nodeB M v && nodeB N u)))]) := by
 refine dcalls_of Try.func19 rfl (by rw [Try.ntmps19]; simp) fun w0 => ?_
 rw [Try.ntmps19]
 have dfx := dfxDpi
 simp only [initE, argsL, Arg.av, netC, endss, ints, ends]
 refine dw_seq (dwR fun K hK => ?_)
 repeat refine evF ?_
 refine aops_end (hK _ (dwK [1, 3, 4, 6, 8] ?_))
 clear hK K
 refine dw_seq (dwR fun K hK => ?_)
 repeat refine evF ?_
 refine clF rfl ⟨rfl, _, rfl⟩ (by omega) (by first | exact may26 | exact may27) (IsNetwork_d ⟨false, f.t1, f.o2, f.t2, false, f.t3, false, f.t4⟩ M hM) ?_
 rintro _ rfl
 repeat refine evF ?_
 cases hg : goodB M with
 | false =>
  repeat refine evF ?_
  refine csF ?_
  repeat refine evF ?_
  refine csF ?_
  repeat refine evF ?_
  refine csF ?_
  repeat refine evF ?_
  refine aops_end (hK _ (dwK [8] ?_))
  clear hK K
  exact dw_ret (fin_ret Try.results19 (.one (.plain _ _ rfl)) (by decide) (by simp [nodeB, hg]))
 | true =>
  repeat refine evF ?_
  refine cgF rfl rfl ⟨rfl, _, rfl⟩ (by omega) (by first | exact may26 | exact may27) (IsNetwork_d ⟨false, g.t1, g.o2, g.t2, false, g.t3, false, g.t4⟩ N hN) ?_
  rintro _ rfl
  repeat refine evF ?_
  cases hg2 : goodB N with
  | false =>
   repeat refine evF ?_
   refine csF ?_
   repeat refine evF ?_
   refine csF ?_
   repeat refine evF ?_
   refine aops_end (hK _ (dwK [8] ?_))
   clear hK K
   exact dw_ret (fin_ret Try.results19 (.one (.plain _ _ rfl)) (by decide) (by simp [nodeB, hg2]))
  | true =>
   repeat refine evF ?_
   refine cgF rfl rfl ⟨rfl, _, rfl⟩ (by omega) (by first | exact may26 | exact may27) (hasNode_d ⟨false, f.t1, f.o2, f.t2, false, f.t3, false, f.t4⟩ M v hlM) ?_
   rintro _ rfl
   repeat refine evF ?_
   cases hi : inB v 0 ((M.ends.length : Int) - 1) with
   | false =>
    repeat refine evF ?_
    refine csF ?_
    repeat refine evF ?_
    refine aops_end (hK _ (dwK [8] ?_))
    clear hK K
    exact dw_ret (fin_ret Try.results19 (.one (.plain _ _ rfl)) (by decide) (by simp [nodeB, hi]))
   | true =>
    repeat refine evF ?_
    refine cgF rfl rfl ⟨rfl, _, rfl⟩ (by omega) (by first | exact may26 | exact may27) (hasNode_d ⟨false, g.t1, g.o2, g.t2, false, g.t3, false, g.t4⟩ N u hlN) ?_
    rintro _ rfl
    repeat refine evF ?_
    refine aops_end (hK _ (dwK [8] ?_))
    clear hK K
    exact dw_ret (fin_ret Try.results19 (.one (.plain _ _ rfl)) (by decide) (by simp [nodeB, hg, hg2, hi]))
end Go.Proofs.Ytlaahgdikiiahaa
