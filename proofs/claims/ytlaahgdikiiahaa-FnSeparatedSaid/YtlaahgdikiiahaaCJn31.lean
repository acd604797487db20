/- Parts of the proof, joined: Dz1, Dw1. -/
import Derived.Test.YtlaahgdikiiahaaCJn28
import Derived.Test.YtlaahgdikiiahaaCDt
set_option linter.unusedSimpArgs false
set_option linter.unusedVariables false
namespace Go.Proofs.Ytlaahgdikiiahaa
section
open Go Go.RowKit
theorem dfxDz1 : type_of% (trivial) := trivial
theorem l1Least_d (a b : Int) : DCalls Try.prog 33 [.c (.p (.int .i64 a)), .c (.p (.int .i64 b))] (fun r => r = [.c (.p (.int .i64 (if a < b then a else b)))]) := by
 refine dcalls_of Try.func33 rfl (by rw [Try.ntmps33]; simp) fun w0 => ?_
 rw [Try.ntmps33]
 have dfx := dfxDz1
 simp only [initE, argsL, Arg.av]
 refine dw_seq (dwR fun K hK => ?_)
 repeat refine evF ?_
 refine aops_end (hK _ (dwK [0, 1] ?_))
 clear hK K
 refine dw_seq ?_
 refine dw_seq (dwR fun K hK => ?_)
 repeat refine evF ?_
 refine aops_end (hK _ (dwK [0, 1, 7] ?_))
 clear hK K
 refine dw_if (by simp only [condV, bunK, C.at, C.put, List.dropLast, List.isPrefixOf, Nat.reduceMul, Nat.reduceLT, Nat.reduceLeDiff, Nat.reduceBEq, Nat.reduceEqDiff, reduceCtorEq, Nat.reduceAdd, ↓reduceIte]; rfl) (fun hb => ?_) (fun hb => ?_)
 ·refine dw_seq (dwR fun K hK => ?_)
  repeat refine evF ?_
  refine aops_end (hK _ (dwK [4] ?_))
  clear hK K
  exact dw_ret (fin_ret Try.results33 (.one (.plain _ _ rfl)) (by decide) (by rw [if_pos (by simpa using hb)]))
 ·refine dw_skip ?_
  show DW _ _ _ _ _
  refine dw_seq (dwR fun K hK => ?_)
  repeat refine evF ?_
  refine aops_end (hK _ (dwK [4] ?_))
  clear hK K
  exact dw_ret (fin_ret Try.results33 (.one (.plain _ _ rfl)) (by decide) (by rw [if_neg (by simpa using hb)]))
end
section
open Go Go.RowKit
def mst (a b : Int) : Int := if a > b then a else b
def manyOf (xs : List Int) : Int := xs.foldl (fun n k => mst n (k + 1)) 0
theorem many_in {m : Int} : ∀ (xs : List Int) (a : Int), (∀ x ∈ xs, 0 ≤ x ∧ x < m) → 0 ≤ a ∧ a ≤ m → 0 ≤ xs.foldl (fun n k => mst n (k + 1)) a ∧ xs.foldl (fun n k => mst n (k + 1)) a ≤ m
 | [], a, _, ha => ha
 | x :: xs, a, h, ha => by
  rw [List.foldl_cons]
  refine many_in xs _ (fun y hy => h y (by simp [hy])) ?_
  have := h x (by simp)
  unfold mst
  split <;> omega
theorem many_take {xs : List Int} {i : Nat} (h : i < xs.length) : manyOf (xs.take (i + 1)) = mst (manyOf (xs.take i)) (gi xs i + 1) := by
 unfold manyOf
 rw [List.take_add_one, List.foldl_append, List.getElem?_eq_getElem h, gi_lt h]; rfl
theorem dfxDw1 : type_of% (trivial) := trivial
theorem l1Most_d (a b : Int) : DCalls Try.prog 59 [.c (.p (.int .i64 a)), .c (.p (.int .i64 b))] (fun r => r = [.c (.p (.int .i64 (mst a b)))]) := by
 refine dcalls_of Try.func59 rfl (by rw [Try.ntmps59]; simp) fun w0 => ?_
 rw [Try.ntmps59]
 have dfx := dfxDw1
 simp only [initE, argsL, Arg.av]
 refine dw_seq (dwR fun K hK => ?_)
 repeat refine evF ?_
 refine aops_end (hK _ (dwK [0, 1] ?_))
 clear hK K
 refine dw_seq ?_
 refine dw_seq (dwR fun K hK => ?_)
 repeat refine evF ?_
 refine aops_end (hK _ (dwK [0, 1, 7] ?_))
 clear hK K
 refine dwI (fun hb => ?_) (fun hb => ?_)
 ·refine dw_seq (dwR fun K hK => ?_)
  repeat refine evF ?_
  refine aops_end (hK _ (dwK [4] ?_))
  clear hK K
  exact dw_ret (fin_ret Try.results59 (.one (.plain _ _ rfl)) (by decide) (by rw [mst, if_pos (by simpa using hb)]))
 ·refine dw_skip ?_
  show DW _ _ _ _ _
  refine dw_seq (dwR fun K hK => ?_)
  repeat refine evF ?_
  refine aops_end (hK _ (dwK [4] ?_))
  clear hK K
  exact dw_ret (fin_ret Try.results59 (.one (.plain _ _ rfl)) (by decide) (by rw [mst, if_neg (by simpa using hb)]))
set_option maxRecDepth 8000 in
set_option maxHeartbeats 0 in
theorem viMany_d (o : Bool) (tt : TypeId) (xs : List Int) (hx : ∀ x ∈ xs, 0 ≤ x ∧ x < 1000000) (hlen : xs.length < 1000000) : DCalls Try.prog 38 [.c (ints o tt xs)] (fun r => r = [.c (.p (.int .i64 (manyOf xs)))]) := by
 refine dcalls_of Try.func38 rfl (by rw [Try.ntmps38]; simp) fun w0 => ?_
 rw [Try.ntmps38]
 have dfx := dfxDw1
 simp only [initE, argsL, Arg.av, ints]
 refine dw_seq (dwR fun K hK => ?_)
 repeat refine evF ?_
 refine aops_end (hK _ (dwK [0] ?_))
 clear hK K
 refine dw_seq (dwR fun K hK => ?_)
 repeat refine evF ?_
 refine aops_end (hK _ (dwK [0, 3] ?_))
 clear hK K
 refine dw_seq ?_
 refine dw_seq (dwR fun K hK => ?_)
 repeat (apply aops_ev; (focus exact rfl); (focus (simp (disch := first | omega | (intros; contradiction)) only [bunK, bunX, C.at, C.put, List.dropLast, List.isPrefixOf, Nat.reduceMul, Nat.reduceLT, Nat.reduceLeDiff, Nat.reduceBEq, Nat.reduceEqDiff, reduceCtorEq, Nat.reduceAdd, ↓reduceIte , tab25]; exact rfl)))
 refine aops_end (hK _ (dwK [3, 6, 7, 8] ?_))
 clear hK K
 refine dw_block ?_
 refine dw_loop (X := Nat × Int) (fun x => x.1 ≤ xs.length ∧ x.2 = manyOf (xs.take x.1)) (fun x => mkE 18 [(3, .c (.p (.int .i64 x.2))), (6, .c (.sl o tt 1 (xs.map iC))), (7, .c (.p (.int .i64 xs.length))), (8, .c (.p (.int .i64 x.1)))] []) (fun x => xs.length - x.1) (0, 0) ⟨by simp, rfl⟩ (Weak.of_eq rfl) ?_
 rintro ⟨i, a⟩ ⟨hi, ha⟩
 dsimp only at hi ha ⊢
 refine dw_seq (dwR fun K hK => ?_)
 repeat refine evF ?_
 refine aops_end (hK _ (dwK [3, 6, 7, 8, 9] ?_))
 clear hK K
 refine dw_seq (dwI (fun hb => ?_) (fun hb => ?_))
 ·refine dw_skip ?_
  show DW _ _ _ _ _
  have hi1 : i < xs.length := by simpa using hb
  have hva := many_in (m := 1000000) (xs.take i) 0 (fun x hx' => hx x (List.mem_of_mem_take hx')) (by omega)
  rw [show (xs.take i).foldl (fun n k => mst n (k + 1)) 0 = a from ha.symm] at hva
  have hxi := hx (gi xs i) (by rw [gi_lt hi1]; exact List.getElem_mem _)
  refine dw_seq (dw_block ?_)
  refine dw_seq (dwR fun K hK => ?_)
  repeat (apply aops_ev; (focus exact rfl); (focus (simp (disch := first | omega | (intros; contradiction)) only [bunK, bunX, C.at, C.put, List.dropLast, List.isPrefixOf, Nat.reduceMul, Nat.reduceLT, Nat.reduceLeDiff, Nat.reduceBEq, Nat.reduceEqDiff, reduceCtorEq, Nat.reduceAdd, ↓reduceIte , tab25, tab3, if_pos, getDi]; exact rfl)))
  refine aops_end (hK _ (dwK [3, 5, 6, 7, 8] ?_))
  clear hK K
  refine dwR fun K hK => ?_
  repeat refine evF ?_
  refine clF rfl ⟨rfl, _, rfl⟩ (by omega) (by first | exact may59) (l1Most_d _ _) ?_
  rintro _ rfl
  repeat refine evF ?_
  refine aops_end (hK _ (dwK [3, 6, 7, 8] ?_))
  clear hK K
  refine dwR fun K hK => ?_
  repeat refine evF ?_
  have dfk := @castS
  refine aops_end (hK _ ?_)
  clear hK K
  show ∃ x, _ ∧ _ ∧ Weak _ _
  refine ⟨(i + 1, mst a (gi xs i + 1)), ?_, ?_, weakFk [3, 6, 7, 8]⟩
  ·refine ⟨hi1, ?_⟩
   rw [many_take hi1, ← ha]
  ·dsimp only; omega
 ·have hi2 : i = xs.length := by
   have : ¬ i < xs.length := by simpa using hb
   omega
  refine dw_leave3 ?_
  refine dw_keep [3] (by simp only [bunK, C.at, C.put, List.dropLast, List.isPrefixOf, Nat.reduceMul, Nat.reduceLT, Nat.reduceLeDiff, Nat.reduceBEq, Nat.reduceEqDiff, reduceCtorEq, Nat.reduceAdd, ↓reduceIte]; exact rfl) ?_
  refine dw_seq (dwR fun K hK => ?_)
  repeat refine evF ?_
  refine aops_end (hK _ (dwK [2] ?_))
  clear hK K
  exact dw_ret (fin_ret Try.results38 (.one (.plain _ _ rfl)) (by decide) (by rw [ha, hi2, List.take_length]))
end
end Go.Proofs.Ytlaahgdikiiahaa
