/- Parts of the proof, joined: Dsm, Dfn. -/
import Derived.Test.YtdiiggpohcjppaaGreatCJn24
import Derived.Test.YtdiiggpohcjppaaGreatCJn26
import Derived.Test.YtdiiggpohcjppaaGreatCDt
import Derived.Test.YtdiiggpohcjppaaGreatCJn10
set_option linter.unusedSimpArgs false
set_option linter.unusedVariables false
namespace Go.Proofs.YtdiiggpohcjppaaGreat
section
open Go Go.RowKit
def sameL (xs ys : List Int) : Bool := decide (xs = ys)
theorem sameL_self (xs : List Int) : sameL xs xs = true := decide_eq_true rfl
theorem sameL_of {xs ys : List Int} (hl : xs.length = ys.length) (h : ∀ j, j < xs.length → gi xs j = gi ys j) : sameL xs ys = true := by
 refine decide_eq_true (List.ext_getElem hl fun i h1 h2 => ?_)
 have := h i h1
 rwa [gi_lt h1, gi_lt h2] at this
def sameIntsSt6 : Nat → Stat
 | 0 => ⟨[0], [], [], [16], [], []⟩
 | 1 => ⟨[5], [], [], [17], [], []⟩
 | 2 => ⟨[16, 17], [], [], [18], [], []⟩
 | 3 => ⟨[18], [], [], [19], [], []⟩
 | 4 => ⟨[1], [], [], [20], [], []⟩
 | 5 => ⟨[5], [], [], [21], [], []⟩
 | 6 => ⟨[20, 21], [], [], [22], [], []⟩
 | 7 => ⟨[22], [], [], [23], [], []⟩
 | 8 => ⟨[19, 23], [], [], [24], [], []⟩
 | _ => ⟨[], [], [], [], [], []⟩
theorem dfxDsm : type_of% (And.intro tab25 (And.intro tab3 (And.intro @if_pos.{1} (And.intro @getDi @trivial)))) := And.intro tab25 (And.intro tab3 (And.intro @if_pos.{1} (And.intro @getDi @trivial)))
set_option maxRecDepth 8000 in
set_option maxHeartbeats 0 in
theorem sameInts_d (o : Bool) (t : TypeId) (xs : List Int) (o2 : Bool) (t2 : TypeId) (ys : List Int) (hxl : xs.length ≤ 1000000) (hyl : ys.length ≤ 1000000) : DCalls Tryz.prog 12 [.c (.sl o t 1 (xs.map iC)), .c (.sl o2 t2 1 (ys.map iC))] (fun q => q = [.c (.p (.bool (sameL xs ys)))]) := by -- params []int, []int
 refine dcalls_of Tryz.func12 rfl (by rw [Tryz.ntmps12]; simp) fun w0 => ?_
 rw [Tryz.ntmps12]
 have dfx := dfxDsm
 simp only [initE, argsL, Arg.av, netC, endss, ints, ends]
 refine dw_seq (dwR fun K hK => ?_)
 repeat refine evF ?_
 refine aops_end (hK _ (dwK [0, 1] ?_))
 clear hK K
 refine dw_seq ?_
 refine dw_seq (dwR fun K hK => ?_)
 repeat refine evF ?_
 refine aops_end (hK _ (dwK [0, 1, 10] ?_))
 clear hK K
 refine dwI (fun hb => ?_) (fun hb => ?_)
 ·have hne : sameL xs ys = false := decide_eq_false fun e => by subst e; simp at hb
  refine dw_seq (dwR fun K hK => ?_)
  repeat refine evF ?_
  refine aops_end (hK _ (dwK [4] ?_))
  clear hK K
  exact dw_ret (fin_ret Tryz.results12 (.one (.plain _ _ rfl)) (by decide) (by rw [hne]))
 ·have hl : xs.length = ys.length := by simp at hb; omega
  refine dw_skip ?_
  show DW _ _ _ _ _
  refine dw_seq ?_
  refine dw_seq (dwR fun K hK => ?_)
  repeat refine evF ?_
  refine aops_end (hK _ (dwK [0, 1, 12, 13] ?_))
  clear hK K
  refine dw_block ?_
  refine dw_loopP (X := Nat) (fun k => k ≤ xs.length ∧ ∀ j, j < k → gi xs j = gi ys j) (fun k => [(13, .c (.p (.int .i64 k)))]) (fun k => []) (fun k => xs.length - k) 0 ⟨Nat.zero_le _, fun j hj => by simp at hj⟩ (by first | rfl | (simp only [bunK, C.at, C.put, List.dropLast, List.isPrefixOf, Nat.reduceMul, Nat.reduceLT, Nat.reduceLeDiff, Nat.reduceBEq, Nat.reduceEqDiff, reduceCtorEq, Nat.reduceAdd, ↓reduceIte, Int.natCast_zero] <;> rfl)) ?_
  rintro k ⟨hk, hs⟩
  intro E hE
  simp only [bunK, C.at, C.put, List.dropLast, List.isPrefixOf, Nat.reduceMul, Nat.reduceLT, Nat.reduceLeDiff, Nat.reduceBEq, Nat.reduceEqDiff, reduceCtorEq, Nat.reduceAdd, ↓reduceIte] at hE
  subst hE
  refine dw_seq (dwR fun K hK => ?_)
  repeat refine evF ?_
  refine aops_end (hK _ (dwK [0, 1, 12, 13, 14] ?_))
  clear hK K
  refine dw_seq (dwI (fun hb => ?_) (fun hb => ?_))
  ·have hkl : k < xs.length := by simpa using hb
   have hkl2 : k < ys.length := by omega
   refine dw_skip ?_
   show DW _ _ _ _ _
   refine dw_seq (dw_block ?_)
   refine dw_seq (dwR fun K hK => ?_)
   repeat refine evF ?_
   refine aops_end (hK _ (dwK [0, 1, 5, 12, 13] ?_))
   clear hK K
   have dfx := And.intro dfx (@sameIntsSt6.eq_def)
   refine dw_seq (dwRD sameIntsSt6 (fun j r => True) fun K hK => ?_)
   repeat refine dvF ?_
   refine dops_end (hK _ (dwK [0, 1, 12, 13, 24] ?_))
   clear hK K
   refine dwI (fun hb => ?_) (fun hb => ?_)
   ·have hne : sameL xs ys = false := decide_eq_false fun e => by subst e; simp at hb
    refine dw_seq (dwR fun K hK => ?_)
    repeat refine evF ?_
    refine aops_end (hK _ (dwK [4] ?_))
    clear hK K
    exact dw_ret (fin_ret Tryz.results12 (.one (.plain _ _ rfl)) (by decide) (by rw [hne]))
   ·have he : gi xs k = gi ys k := by simpa using hb
    refine dw_skip ?_
    show DW _ _ _ _ _
    refine dwR fun K hK => ?_
    repeat refine evF ?_
    have dfk := @castS
    refine aops_end (hK _ ?_)
    clear hK K
    show ∃ x, _ ∧ _ ∧ Weak _ _
    refine ⟨k + 1, ?_, ?_, weakFk [0, 1, 12, 13]⟩
    ·refine ⟨hkl, fun j hj => ?_⟩
     rcases Nat.lt_or_ge j k with h | h
     ·exact hs j h
     ·obtain rfl : j = k := by omega
      exact he
    ·omega
  ·have hkl : k = xs.length := by
    have : ¬ (k : Int) < (xs.length : Int) := by simpa using hb
    omega
   subst hkl
   have hne : sameL xs ys = true := sameL_of hl hs
   refine dw_leave3 ?_
   refine dwK [] ?_
   refine dw_seq (dwR fun K hK => ?_)
   repeat refine evF ?_
   refine aops_end (hK _ (dwK [4] ?_))
   clear hK K
   exact dw_ret (fin_ret Tryz.results12 (.one (.plain _ _ rfl)) (by decide) (by rw [hne]))
end
section
open Go Go.RowKit
def fstF (n : Nat) (b : Nat → Bool) : Int := match (List.range n).find? b with
 | some i => i
 | none => -1
theorem fstF_some {n i : Nat} {b : Nat → Bool} (hi : i < n) (hb : b i = true) (hn : ∀ j, j < i → b j = false) : fstF n b = i := by
 unfold fstF
 have : (List.range n).find? b = some i := by
  rw [List.find?_range_eq_some]
  exact ⟨hb, by simpa using hi, fun j hj => by simp [hn j hj]⟩
 rw [this]
theorem fstF_none {n : Nat} {b : Nat → Bool} (hn : ∀ j, j < n → b j = false) : fstF n b = -1 := by
 unfold fstF
 have : (List.range n).find? b = none := by
  rw [List.find?_eq_none]
  exact fun j hj => by simp [hn j (by simpa using hj)]
 rw [this]
set_option maxRecDepth 8000 in
set_option maxHeartbeats 0 in
theorem within_d (n lo hi : Int) : DCalls Tryz.prog 65 [.c (.p (.int .i64 n)), .c (.p (.int .i64 lo)), .c (.p (.int .i64 hi))] (fun r => r = [.c (.p (.bool (inB n lo hi)))]) := dcalls_v fun w vs h1 h2 => by
 obtain ⟨u, v, t, rfl, g1, g2, g3⟩ := args3 h1 h2
 rw [argI g1, argI g2, argI g3]
 exact (within_any n lo hi w).mono fun _ _ h => RetQ.v h
end
end Go.Proofs.YtdiiggpohcjppaaGreat
