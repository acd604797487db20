/- Parts of the proof, joined: Vw1, Dz2, Dw2, Dz3, Szp, Vw2, Vw3, Vw4. -/
import Derived.Test.YtlaahgdikiiahaaCJn28
import Derived.Test.YtlaahgdikiiahaaCDt
import Derived.Test.YtlaahgdikiiahaaCJn10
import Derived.Test.YtlaahgdikiiahaaCJn31
import Derived.Test.YtlaahgdikiiahaaCJn14
set_option linter.unusedSimpArgs false
set_option linter.unusedVariables false
namespace Go.Proofs.Ytlaahgdikiiahaa
section
open Go Go.RowKit
def wkL (N : Net) (cls : List Int) (v : Nat) : List Int := vkey N (if cls = [] then none else some cls) v
theorem wkL_iff {N : Net} {cls : List Int} {u v : Nat} : wkL N cls u = wkL N cls v ↔ (gl N.ends u).length = (gl N.ends v).length ∧ gi N.inputs u = gi N.inputs v ∧
 (cls ≠ [] → ∀ i, i < (gl N.ends u).length → (gp (gl N.ends u) i).2 = (gp (gl N.ends v) i).2 ∧ gi cls (gp (gl N.ends u) i).1.toNat = gi cls (gp (gl N.ends v) i).1.toNat) := by
 unfold wkL
 by_cases h : cls = []
 ·rw [if_pos h, vkey_none]; simp [h]
 ·rw [if_neg h, vkey_some]; simp [h]
theorem Fine.node {N : Net} (h : Fine N) {v i : Nat} (hv : v < N.ends.length) (hi : i < (gl N.ends v).length) : 0 ≤ (gp (gl N.ends v) i).1 ∧ (gp (gl N.ends v) i).1 < (N.ends.length : Int) := by
 obtain ⟨q, j, h1, h2, -, -⟩ := h.at_ hv (e := gp (gl N.ends v) i) (by rw [gp_lt hi]; exact List.getElem_mem hi)
 rw [h1]
 omega
def viAlikeSt1 : Nat → Stat
 | 0 => ⟨[4], [(4, 1)], [], [12], [], []⟩
 | 1 => ⟨[12], [(4, 1)], [], [13], [], []⟩
 | 2 => ⟨[2], [], [], [14], [], []⟩
 | 3 => ⟨[13, 14], [], [], [15], [], []⟩
 | 4 => ⟨[15], [], [], [16], [], []⟩
 | 5 => ⟨[16], [], [], [17], [], []⟩
 | 6 => ⟨[4], [(4, 1)], [], [18], [], []⟩
 | 7 => ⟨[18], [(4, 1)], [], [19], [], []⟩
 | 8 => ⟨[3], [], [], [20], [], []⟩
 | 9 => ⟨[19, 20], [], [], [21], [], []⟩
 | 10 => ⟨[21], [], [], [22], [], []⟩
 | 11 => ⟨[22], [], [], [23], [], []⟩
 | 12 => ⟨[17, 23], [], [], [24], [], []⟩
 | 13 => ⟨[24], [], [], [25], [], []⟩
 | 14 => ⟨[4, 25], [(4, 1)], [], [26], [], []⟩
 | 15 => ⟨[26, 25], [(4, 1)], [], [27], [], []⟩
 | 16 => ⟨[2, 25], [], [], [28], [], []⟩
 | 17 => ⟨[27, 28, 25], [], [], [29], [], []⟩
 | 18 => ⟨[29, 25], [], [], [30], [], []⟩
 | 19 => ⟨[4, 25], [(4, 1)], [], [31], [], []⟩
 | 20 => ⟨[31, 25], [(4, 1)], [], [32], [], []⟩
 | 21 => ⟨[3, 25], [], [], [33], [], []⟩
 | 22 => ⟨[32, 33, 25], [], [], [34], [], []⟩
 | 23 => ⟨[34, 25], [], [], [35], [], []⟩
 | 24 => ⟨[30, 35, 25], [], [], [36], [], []⟩
 | 25 => ⟨[25, 36], [], [], [37], [], []⟩
 | _ => ⟨[], [], [], [], [], []⟩
def viAlikeSt7 : Nat → Stat
 | 0 => ⟨[1], [], [], [57], [], []⟩
 | 1 => ⟨[57], [], [], [58], [], []⟩
 | 2 => ⟨[58], [], [], [59], [], []⟩
 | 3 => ⟨[59], [], [], [60], [], []⟩
 | 4 => ⟨[10, 60], [(10, 1)], [], [61], [], []⟩
 | 5 => ⟨[61, 60], [(10, 1)], [], [62], [], []⟩
 | 6 => ⟨[11, 60], [(11, 1)], [], [63], [], []⟩
 | 7 => ⟨[63, 60], [(11, 1)], [], [64], [], []⟩
 | 8 => ⟨[62, 64, 60], [], [], [65], [], []⟩
 | 9 => ⟨[65, 60], [], [], [66], [], []⟩
 | 10 => ⟨[1, 66], [], [], [67], [], []⟩
 | 11 => ⟨[10, 66], [(10, 1)], [], [68], [], []⟩
 | 12 => ⟨[68, 66], [(10, 1)], [], [69], [], []⟩
 | 13 => ⟨[67, 69, 66], [], [], [70], [], []⟩
 | 14 => ⟨[70, 66], [], [], [71], [], []⟩
 | 15 => ⟨[1, 66], [], [], [72], [], []⟩
 | 16 => ⟨[11, 66], [(11, 1)], [], [73], [], []⟩
 | 17 => ⟨[73, 66], [(11, 1)], [], [74], [], []⟩
 | 18 => ⟨[72, 74, 66], [], [], [75], [], []⟩
 | 19 => ⟨[75, 66], [], [], [76], [], []⟩
 | 20 => ⟨[71, 76, 66], [], [], [77], [], []⟩
 | 21 => ⟨[66, 77, 60], [], [], [78], [], []⟩
 | 22 => ⟨[60, 78], [], [], [79], [], []⟩
 | _ => ⟨[], [], [], [], [], []⟩
theorem dfxVw1 : type_of% (And.intro tab27 (And.intro tab24 (And.intro tab38 (And.intro @if_pos.{1} (And.intro tab40 (And.intro tab25 (And.intro tab3 (And.intro @rowi (And.intro @getDe (And.intro @getDp (And.intro @getDi (And.intro @List.take_succ_cons.{0} (And.intro @List.take_zero.{0} @trivial))))))))))))) := And.intro tab27 (And.intro tab24 (And.intro tab38 (And.intro @if_pos.{1} (And.intro tab40 (And.intro tab25 (And.intro tab3 (And.intro @rowi (And.intro @getDe (And.intro @getDp (And.intro @getDi (And.intro @List.take_succ_cons.{0} (And.intro @List.take_zero.{0} @trivial))))))))))))
set_option maxRecDepth 8000 in
set_option maxHeartbeats 0 in
theorem viAlike_d (f : NF) (o : Bool) (tt : TypeId) (N : Net) (cls : List Int) (u v : Nat) (hf : Fine N) (hin : N.inputs.length = N.ends.length) (hc : cls = [] ∨ cls.length = N.ends.length) (hu : u < N.ends.length) (hv : v < N.ends.length) : DCalls Try.prog 58 [.agg (netC f N), .c (ints o tt cls), .c (.p (.int .i64 u)), .c (.p (.int .i64 v))] (fun r => r = [.c (.p (.bool (decide (wkL N cls u = wkL N cls v))))]) := by -- params impl.Network, []int, int, int
 refine dcalls_of Try.func58 rfl (by rw [Try.ntmps58]; simp) fun w0 => ?_
 rw [Try.ntmps58]
 have dfx := dfxVw1
 simp only [initE, argsL, Arg.av, netC, endss, ints, ends]
 have hdu := hf.deg u hu
 have hdv := hf.deg v hv
 unfold dg at hdu hdv
 refine dw_seq (dwR fun K hK => ?_)
 repeat refine evF ?_
 refine aops_end (hK _ (dwK [1, 2, 3, 4] ?_))
 clear hK K
 refine dw_seq ?_
 obtain h1 | h1 := Bool.eq_false_or_eq_true (((gl N.ends u).length : Int) != ((gl N.ends v).length : Int))
 ·have dfx := And.intro dfx (And.intro @viAlikeSt1.eq_def @h1)
  refine dw_seq (dwRD viAlikeSt1 (fun j r => match j with | _ => True) fun K hK => ?_)
  repeat refine dvF ?_
  refine dops_end (hK _ (dwK [1, 2, 3, 4, 37] ?_))
  clear hK K
  refine dwI (fun hb => ?_) (fun hb => ?_)
  ·refine dw_seq (dwR fun K hK => ?_)
   repeat refine evF ?_
   refine aops_end (hK _ (dwK [8] ?_))
   clear hK K
   exact dw_ret (fin_ret Try.results58 (.one (.plain _ _ rfl)) (by decide) (by rw [decide_eq_false (fun h => by have := (wkL_iff.1 h).1; simp at h1; omega)]))
  ·cases hb
 ·obtain h2 | h2 := Bool.eq_false_or_eq_true (gi N.inputs u != gi N.inputs v)
  ·have dfx := And.intro dfx (And.intro @viAlikeSt1.eq_def (And.intro @h1 @h2))
   refine dw_seq (dwRD viAlikeSt1 (fun j r => match j with | _ => True) fun K hK => ?_)
   repeat refine dvF ?_
   refine dops_end (hK _ (dwK [1, 2, 3, 4, 37] ?_))
   clear hK K
   refine dwI (fun hb => ?_) (fun hb => ?_)
   ·refine dw_seq (dwR fun K hK => ?_)
    repeat refine evF ?_
    refine aops_end (hK _ (dwK [8] ?_))
    clear hK K
    exact dw_ret (fin_ret Try.results58 (.one (.plain _ _ rfl)) (by decide) (by rw [decide_eq_false (fun h => by have := (wkL_iff.1 h).2.1; simp at h2; exact h2 this)]))
   ·cases hb
  ·have dfx := And.intro dfx (And.intro @viAlikeSt1.eq_def (And.intro @h1 @h2))
   refine dw_seq (dwRD viAlikeSt1 (fun j r => match j with | _ => True) fun K hK => ?_)
   repeat refine dvF ?_
   refine dops_end (hK _ (dwK [1, 2, 3, 4, 37] ?_))
   clear hK K
   refine dwI (fun hb => ?_) (fun hb => ?_)
   ·cases hb
   ·refine dw_skip ?_
    show DW _ _ _ _ _
    refine dw_seq ?_
    refine dw_seq (dwR fun K hK => ?_)
    repeat refine evF ?_
    refine aops_end (hK _ (dwK [1, 3, 4, 42, 43, 44] ?_))
    clear hK K
    refine dw_block ?_
    have hl : (gl N.ends u).length = (gl N.ends v).length := by simp at h1; omega
    have hi : gi N.inputs u = gi N.inputs v := by simpa using h2
    refine dw_loopP (X := Nat) (fun i => i ≤ (gl N.ends u).length ∧ (cls ≠ [] → ∀ j, j < i → (gp (gl N.ends u) j).2 = (gp (gl N.ends v) j).2 ∧ gi cls (gp (gl N.ends u) j).1.toNat = gi cls (gp (gl N.ends v) j).1.toNat)) (fun i => [(44, .c (.p (.int .i64 i)))]) (fun i => []) (fun i => (gl N.ends u).length - i) 0 ⟨Nat.zero_le _, fun _ j hj => absurd hj (by omega)⟩ (by first | rfl | (simp only [bunK, C.at, C.put, List.dropLast, List.isPrefixOf, Nat.reduceMul, Nat.reduceLT, Nat.reduceLeDiff, Nat.reduceBEq, Nat.reduceEqDiff, reduceCtorEq, Nat.reduceAdd, ↓reduceIte, Int.natCast_zero] <;> rfl)) ?_
    rintro i ⟨hi0, hprev⟩
    intro E hE
    simp only [bunK, C.at, C.put, List.dropLast, List.isPrefixOf, Nat.reduceMul, Nat.reduceLT, Nat.reduceLeDiff, Nat.reduceBEq, Nat.reduceEqDiff, reduceCtorEq, Nat.reduceAdd, ↓reduceIte] at hE
    subst hE
    refine dw_seq (dwR fun K hK => ?_)
    repeat refine evF ?_
    refine aops_end (hK _ (dwK [1, 3, 4, 42, 43, 44, 45] ?_))
    clear hK K
    refine dw_seq (dwI (fun hb => ?_) (fun hb => ?_))
    ·refine dw_skip ?_
     show DW _ _ _ _ _
     have hi1 : i < (gl N.ends u).length := by simpa using hb
     have hiv : i < (gl N.ends v).length := by omega
     have hnu := hf.node hu hi1
     have hnv := hf.node hv hiv
     refine dw_seq (dw_block ?_)
     refine dw_seq (dwR fun K hK => ?_)
     repeat refine evF ?_
     refine aops_end (hK _ (dwK [1, 3, 4, 9, 10, 42, 43, 44] ?_))
     clear hK K
     refine dw_seq (dwR fun K hK => ?_)
     repeat refine evF ?_
     refine aops_end (hK _ (dwK [1, 3, 4, 10, 11, 42, 43, 44] ?_))
     clear hK K
     obtain h3 | h3 := Bool.eq_false_or_eq_true (decide ((cls.length : Int) > 0))
     ·have hcl : cls ≠ [] := fun h => by rw [h] at h3; simp at h3
      have hcn : cls.length = N.ends.length := hc.resolve_left hcl
      obtain h4 | h4 := Bool.eq_false_or_eq_true ((gp (gl N.ends u) i).2 != (gp (gl N.ends v) i).2)
      ·have dfx := And.intro dfx (And.intro @viAlikeSt7.eq_def (And.intro @h3 @h4))
       refine dw_seq (dwRD viAlikeSt7 (fun j r => match j with | _ => True) fun K hK => ?_)
       repeat refine dvF ?_
       refine dops_end (hK _ (dwK [1, 3, 4, 42, 43, 44, 79] ?_))
       clear hK K
       refine dwI (fun hb => ?_) (fun hb => ?_)
       ·refine dw_seq (dwR fun K hK => ?_)
        repeat refine evF ?_
        refine aops_end (hK _ (dwK [8] ?_))
        clear hK K
        exact dw_ret (fin_ret Try.results58 (.one (.plain _ _ rfl)) (by decide) (by rw [decide_eq_false (fun h => by have := ((wkL_iff.1 h).2.2 hcl i hi1).1; simp at h4; exact h4 this)]))
       ·cases hb
      ·obtain h5 | h5 := Bool.eq_false_or_eq_true (gi cls (gp (gl N.ends u) i).1.toNat != gi cls (gp (gl N.ends v) i).1.toNat)
       ·have dfx := And.intro dfx (And.intro @viAlikeSt7.eq_def (And.intro @h3 (And.intro @h4 @h5)))
        refine dw_seq (dwRD viAlikeSt7 (fun j r => match j with | _ => True) fun K hK => ?_)
        repeat refine dvF ?_
        refine dops_end (hK _ (dwK [1, 3, 4, 42, 43, 44, 79] ?_))
        clear hK K
        refine dwI (fun hb => ?_) (fun hb => ?_)
        ·refine dw_seq (dwR fun K hK => ?_)
         repeat refine evF ?_
         refine aops_end (hK _ (dwK [8] ?_))
         clear hK K
         exact dw_ret (fin_ret Try.results58 (.one (.plain _ _ rfl)) (by decide) (by rw [decide_eq_false (fun h => by have := ((wkL_iff.1 h).2.2 hcl i hi1).2; simp at h5; exact h5 this)]))
        ·cases hb
       ·have dfx := And.intro dfx (And.intro @viAlikeSt7.eq_def (And.intro @h3 (And.intro @h4 @h5)))
        refine dw_seq (dwRD viAlikeSt7 (fun j r => match j with | _ => True) fun K hK => ?_)
        repeat refine dvF ?_
        refine dops_end (hK _ (dwK [1, 3, 4, 42, 43, 44, 79] ?_))
        clear hK K
        refine dwI (fun hb => ?_) (fun hb => ?_)
        ·cases hb
        ·refine dw_skip ?_
         show DW _ _ _ _ _
         refine dwR fun K hK => ?_
         repeat refine evF ?_
         have dfk := @castS
         refine aops_end (hK _ ?_)
         clear hK K
         show ∃ x, _ ∧ _ ∧ Weak _ _
         refine ⟨i + 1, ?_, ?_, weakFk [1, 3, 4, 42, 43, 44]⟩
         ·refine ⟨hi1, fun _ j hj => ?_⟩
          by_cases hji : j = i
          ·subst hji; exact ⟨by simpa using h4, by simpa using h5⟩
          ·exact hprev hcl j (by omega)
         ·omega
     ·have hcl : cls = [] := by simp at h3; simpa using h3
      have dfx := And.intro dfx (And.intro @viAlikeSt7.eq_def @h3)
      refine dw_seq (dwRD viAlikeSt7 (fun j r => match j with | _ => True) fun K hK => ?_)
      repeat refine dvF ?_
      refine dops_end (hK _ (dwK [1, 3, 4, 42, 43, 44, 79] ?_))
      clear hK K
      refine dwI (fun hb => ?_) (fun hb => ?_)
      ·cases hb
      ·refine dw_skip ?_
       show DW _ _ _ _ _
       refine dwR fun K hK => ?_
       repeat refine evF ?_
       have dfk := @castS
       refine aops_end (hK _ ?_)
       clear hK K
       show ∃ x, _ ∧ _ ∧ Weak _ _
       refine ⟨i + 1, ?_, ?_, weakFk [1, 3, 4, 42, 43, 44]⟩
       ·exact ⟨hi1, fun h => absurd hcl h⟩
       ·omega
    ·have hi2 : i = (gl N.ends u).length := by
      have : ¬ i < (gl N.ends u).length := by simpa using hb
      omega
     refine dw_leave3 ?_
     refine dw_keep [1] (by simp only [bunK, C.at, C.put, List.dropLast, List.isPrefixOf, Nat.reduceMul, Nat.reduceLT, Nat.reduceLeDiff, Nat.reduceBEq, Nat.reduceEqDiff, reduceCtorEq, Nat.reduceAdd, ↓reduceIte]; exact rfl) ?_
     refine dw_seq (dwR fun K hK => ?_)
     repeat refine evF ?_
     refine aops_end (hK _ (dwK [8] ?_))
     clear hK K
     exact dw_ret (fin_ret Try.results58 (.one (.plain _ _ rfl)) (by decide) (by rw [decide_eq_true (wkL_iff.2 ⟨hl, hi, fun h => by rw [← hi2]; exact hprev h⟩)]))
end
section
open Go Go.RowKit
theorem l1In_d (a b c : Int) : DCalls Try.prog 51 [.c (.p (.int .i64 a)), .c (.p (.int .i64 b)), .c (.p (.int .i64 c))] (fun r => r = [.c (.p (.bool (inB a b c)))]) := dcalls_v fun w vs h1 h2 => by
 obtain ⟨u, v, t, rfl, g1, g2, g3⟩ := args3 h1 h2
 rw [argI g1, argI g2, argI g3]
 exact (l1In_any a b c w).mono fun _ _ h => RetQ.v h
theorem neNode_d (f : NF) (N : Net) (v : Int) : DCalls Try.prog 31 [.agg (netC f N), .c (.p (.int .i64 v))] (fun r => r = [.c (.p (.bool (nodeB N v)))]) := dcalls_v fun w vs h1 h2 => by
 obtain ⟨u, v, rfl, g1, g2⟩ := args2 h1 h2
 rw [argI g2]
 exact neNode_any u N _ w (argN g1)
theorem dfxDz2 : type_of% (trivial) := trivial
theorem viDepth_d (t : Int) : DCalls Try.prog 32 [.c (.p (.int .i64 t))] (fun r => r = [.c (.p (.bool (inB t 0 80)))]) := by
 refine dcalls_of Try.func32 rfl (by rw [Try.ntmps32]; simp) fun w0 => ?_
 rw [Try.ntmps32]
 have dfx := dfxDz2
 simp only [initE, argsL, Arg.av]
 refine dw_seq (dwR fun K hK => ?_)
 repeat refine evF ?_
 refine aops_end (hK _ (dwK [0] ?_))
 clear hK K
 refine dw_seq (dwR fun K hK => ?_)
 repeat refine evF ?_
 refine clF rfl ⟨rfl, _, rfl⟩ (by omega) (by first | exact may51) (l1In_d _ _ _) ?_
 rintro _ rfl
 repeat refine evF ?_
 refine aops_end (hK _ (dwK [2] ?_))
 clear hK K
 exact dw_ret (fin_ret Try.results32 (.one (.plain _ _ rfl)) (by decide) rfl)
end
section
open Go Go.RowKit
theorem dfxDw2 : type_of% (trivial) := trivial
set_option maxRecDepth 8000 in
set_option maxHeartbeats 0 in
theorem viBoth_no (f g : NF) (M N : Net) (v w : Int) (hn : nodeB M v = false) : DCalls Try.prog 16 [.agg (netC f M), .c (.p (.int .i64 v)), .agg (netC g N), .c (.p (.int .i64 w))] (fun r => r = [.own true [.p (.slice none 0 0), .p (.slice none 0 0), .p (.slice none 0 0)], .c (.p (.int .i64 0)), .c (.p (.bool false))]) := by
 refine dcalls_of Try.func16 rfl (by rw [Try.ntmps16]; simp) fun w0 => ?_
 rw [Try.ntmps16]
 have dfx := dfxDw2
 simp only [initE, argsL, Arg.av, netC, endss, ints, ends]
 refine dw_seq (dwR fun K hK => ?_)
 repeat (apply aops_ev; (focus exact rfl); (focus (simp (disch := first | omega | (intros; contradiction)) only [bunK, bunX, C.at, C.put, List.dropLast, List.isPrefixOf, Nat.reduceMul, Nat.reduceLT, Nat.reduceLeDiff, Nat.reduceBEq, Nat.reduceEqDiff, reduceCtorEq, Nat.reduceAdd, ↓reduceIte , tab27]; exact rfl)))
 refine aops_end (hK _ (dwK [1, 3, 4, 6, 8, 9, 10] ?_))
 clear hK K
 refine dw_seq ?_
 refine dw_seq (dwR fun K hK => ?_)
 repeat (apply aops_ev; (focus exact rfl); (focus (simp (disch := first | omega | (intros; contradiction)) only [bunK, bunX, C.at, C.put, List.dropLast, List.isPrefixOf, Nat.reduceMul, Nat.reduceLT, Nat.reduceLeDiff, Nat.reduceBEq, Nat.reduceEqDiff, reduceCtorEq, Nat.reduceAdd, ↓reduceIte , tab27, may31]; exact rfl)))
 refine clF rfl ⟨rfl, _, rfl⟩ (by omega) (by first | exact may31) (neNode_d ⟨false, f.t1, f.o2, f.t2, false, f.t3, false, f.t4⟩ M v) ?_
 rintro _ rfl
 repeat refine evF ?_
 rw [hn]
 repeat (apply aops_ev; (focus exact rfl); (focus (simp (disch := first | omega | (intros; contradiction)) only [bunK, bunX, C.at, C.put, List.dropLast, List.isPrefixOf, Nat.reduceMul, Nat.reduceLT, Nat.reduceLeDiff, Nat.reduceBEq, Nat.reduceEqDiff, reduceCtorEq, Nat.reduceAdd, ↓reduceIte , tab27]; exact rfl)))
 refine csF ?_
 repeat refine evF ?_
 refine aops_end (hK _ (dwK [3, 4, 6, 8, 9, 10, 20] ?_))
 clear hK K
 refine dwI (fun hb => ?_) (fun hb => ?_)
 ·refine dw_seq (dwR fun K hK => ?_)
  repeat (apply aops_ev; (focus exact rfl); (focus (simp (disch := first | omega | (intros; contradiction)) only [bunK, bunX, C.at, C.put, List.dropLast, List.isPrefixOf, Nat.reduceMul, Nat.reduceLT, Nat.reduceLeDiff, Nat.reduceBEq, Nat.reduceEqDiff, reduceCtorEq, Nat.reduceAdd, ↓reduceIte , tab27, tab24, tab25]; exact rfl)))
  refine aops_end (hK _ (dwK [8, 9, 10] ?_))
  clear hK K
  exact dw_ret (fin_ret Try.results16 (.cons _ _ _ _ (.cell 8 _ _ _ _ rfl rfl tab27 rfl rfl (fun x hx => by simp at hx; subst hx; exact owned_p _)) (.two (.plain _ _ rfl) (.plain _ _ rfl))) (by decide) rfl)
 ·cases hb
end
section
open Go Go.RowKit
def lst (a b : Int) : Int := if a < b then a else b
def vsum (s : List Int) (es : List (Int × Int)) : Int := es.foldl (fun a e => lst (a + gi s e.1.toNat) 1000001) 1
def vsStep (N : Net) (s : List Int) : List Int := (List.range N.ends.length).map fun v => vsum s (gl N.ends v)
def vsz (N : Net) : Nat → List Int
 | 0 => List.replicate N.ends.length 1
 | t + 1 => vsStep N (vsz N t)
theorem vsum_in {s : List Int} (h : ∀ j, 0 ≤ gi s j ∧ gi s j ≤ 1000001) : ∀ (es : List (Int × Int)) (a : Int), 0 ≤ a ∧ a ≤ 1000001 → 0 ≤ es.foldl (fun a e => lst (a + gi s e.1.toNat) 1000001) a ∧ es.foldl (fun a e => lst (a + gi s e.1.toNat) 1000001) a ≤ 1000001
 | [], a, ha => ha
 | e :: es, a, ha => by
  rw [List.foldl_cons]
  refine vsum_in h es _ ?_
  have := h e.1.toNat
  unfold lst
  split <;> omega
theorem vsz_len (N : Net) : ∀ T, (vsz N T).length = N.ends.length
 | 0 => by simp [vsz]
 | T + 1 => by simp [vsz, vsStep]
theorem vsz_in (N : Net) : ∀ T j, 0 ≤ gi (vsz N T) j ∧ gi (vsz N T) j ≤ 1000001
 | 0, j => by
  unfold vsz gi
  rw [List.getD_eq_getElem?_getD, List.getElem?_replicate]
  split <;> simp
 | T + 1, j => by
  unfold vsz vsStep gi
  rw [List.getD_eq_getElem?_getD, List.getElem?_map]
  by_cases h : j < N.ends.length
  ·rw [List.getElem?_range h]
   exact vsum_in (vsz_in N T) _ 1 (by omega)
  ·rw [List.getElem?_eq_none (by simpa using h)]; simp
theorem vsum_take {s : List Int} {es : List (Int × Int)} {i : Nat} (h : i < es.length) : vsum s (es.take (i + 1)) = lst (vsum s (es.take i) + gi s (gp es i).1.toNat) 1000001 := by
 unfold vsum
 rw [List.take_add_one, List.foldl_append, List.getElem?_eq_getElem h, gp_lt h]; rfl
theorem gisk {s : List Int} {k : Nat} {c : Int} (h : k < s.length) : gi (s.set k c) k = c := by rw [gis h, if_pos rfl]
theorem rowis {s : List Int} {k : Nat} {c : Int} (h : k < s.length) : rowC ((s.set k c).map iC) k 0 = some (.p (.int .i64 c)) := by rw [rowi (by simpa using h), gisk h]
theorem setk {s : List Int} {k : Nat} {c d : Int} : (s.set k c).set k d = s.set k d := List.set_set ..
theorem node_rows {N : Net} {v : Int} (h : nodeB N v = true) {k : Nat} (hk : k < N.ends.length) : (gl N.ends k).length ≤ 6 ∧ ∀ i, i < (gl N.ends k).length → 0 ≤ (gp (gl N.ends k) i).1 ∧ (gp (gl N.ends k) i).1 < (N.ends.length : Int) := by
 unfold nodeB at h
 simp only [Bool.and_eq_true] at h
 obtain ⟨-, -, -, -, he⟩ := goodB_iff.1 h.1
 refine ⟨(he k hk).1, fun i hi => ?_⟩
 have := ((he k hk).2 i hi).1
 unfold inB at this
 simp only [Bool.and_eq_true, decide_eq_true_eq] at this
 omega
def vsSt : Nat → Stat
 | 0 => ⟨[10], [], [], [62], [], []⟩
 | 1 => ⟨[11], [], [], [63], [], []⟩
 | 2 => ⟨[10], [], [], [64], [], []⟩
 | 3 => ⟨[11], [], [], [65], [], []⟩
 | 4 => ⟨[64, 65], [(10, 1)], [], [66], [], []⟩
 | 5 => ⟨[66], [(10, 2)], [], [67], [], []⟩
 | 6 => ⟨[8], [], [], [68], [], []⟩
 | 7 => ⟨[14], [(14, 1)], [], [69], [], []⟩
 | 8 => ⟨[69], [(14, 1)], [], [70], [], []⟩
 | 9 => ⟨[68, 70], [(8, 1)], [], [71], [], []⟩
 | 10 => ⟨[71], [(8, 2)], [], [72], [], []⟩
 | 11 => ⟨[67, 72], [], [], [73], [], []⟩
 | 12 => ⟨[73], [], [], [74], [], []⟩
 | 13 => ⟨[62, 63], [(10, 1)], [], [75], [], []⟩
 | 14 => ⟨[75, 74], [(10, 2)], [], [], [(10, 2)], []⟩
 | _ => ⟨[], [], [], [], [], []⟩
theorem dfxDz3 : type_of% (trivial) := trivial
set_option maxRecDepth 8000 in
set_option maxHeartbeats 0 in
theorem ViewSize_yes (f : NF) (N : Net) (v t : Nat) (hn : nodeB N v = true) (hv : v < N.ends.length) (hl : N.ends.length ≤ 1000) (ht : t ≤ 80) :
 DCalls Try.prog 12 [.agg (netC f N), .c (.p (.int .i64 v)), .c (.p (.int .i64 t))] (fun r => r = if gi (vsz N t) v > 1000000 then [.c (.p (.int .i64 0)), .c (.p (.bool false))] else [.c (.p (.int .i64 (gi (vsz N t) v))), .c (.p (.bool true))]) := by
 refine dcalls_of Try.func12 rfl (by rw [Try.ntmps12]; simp) fun w0 => ?_
 rw [Try.ntmps12]
 have dfx := dfxDz3
 simp only [initE, argsL, Arg.av, netC, endss, ints, ends]
 refine dw_seq (dwR fun K hK => ?_)
 repeat (apply aops_ev; (focus exact rfl); (focus (simp (disch := first | omega | (intros; contradiction)) only [bunK, bunX, C.at, C.put, List.dropLast, List.isPrefixOf, Nat.reduceMul, Nat.reduceLT, Nat.reduceLeDiff, Nat.reduceBEq, Nat.reduceEqDiff, reduceCtorEq, Nat.reduceAdd, ↓reduceIte , tab27]; exact rfl)))
 refine aops_end (hK _ (dwK [1, 2, 3] ?_))
 clear hK K
 refine dw_seq ?_
 refine dw_seq (dwR fun K hK => ?_)
 repeat (apply aops_ev; (focus exact rfl); (focus (simp (disch := first | omega | (intros; contradiction)) only [bunK, bunX, C.at, C.put, List.dropLast, List.isPrefixOf, Nat.reduceMul, Nat.reduceLT, Nat.reduceLeDiff, Nat.reduceBEq, Nat.reduceEqDiff, reduceCtorEq, Nat.reduceAdd, ↓reduceIte , tab27]; exact rfl)))
 refine clF rfl ⟨rfl, _, rfl⟩ (by omega) (by first | exact may31) (neNode_d ⟨false, f.t1, f.o2, f.t2, false, f.t3, false, f.t4⟩ N v) ?_
 rintro _ rfl
 repeat refine evF ?_
 rw [hn]
 repeat refine evF ?_
 refine cgF rfl rfl ⟨rfl, _, rfl⟩ (by omega) (by first | exact may32) (viDepth_d t) ?_
 rintro _ rfl
 repeat refine evF ?_
 rw [show inB (t : Int) 0 80 = true from by unfold inB; simp; omega]
 repeat refine evF ?_
 refine aops_end (hK _ (dwK [1, 2, 3, 23] ?_))
 clear hK K
 refine dwI (fun hb => ?_) (fun hb => ?_)
 ·cases hb
 refine dw_skip ?_
 show DW _ _ _ _ _
 refine dw_seq (dwR fun K hK => ?_)
 repeat (apply aops_ev; (focus exact rfl); (focus (simp (disch := first | omega | (intros; contradiction)) only [bunK, bunX, C.at, C.put, List.dropLast, List.isPrefixOf, Nat.reduceMul, Nat.reduceLT, Nat.reduceLeDiff, Nat.reduceBEq, Nat.reduceEqDiff, reduceCtorEq, Nat.reduceAdd, ↓reduceIte , tab27, tab24, tab25, tab3, List.length_map, if_pos]; exact rfl)))
 have dfk := @zrows
 refine aops_end (hK _ (dwKF [1, 2, 3, 8] ?_))
 clear hK K
 refine dw_seq ?_
 refine dw_seq (dwR fun K hK => ?_)
 repeat (apply aops_ev; (focus exact rfl); (focus (simp (disch := first | omega | (intros; contradiction)) only [bunK, bunX, C.at, C.put, List.dropLast, List.isPrefixOf, Nat.reduceMul, Nat.reduceLT, Nat.reduceLeDiff, Nat.reduceBEq, Nat.reduceEqDiff, reduceCtorEq, Nat.reduceAdd, ↓reduceIte , tab27, tab24, tab25, tab3, List.length_map, if_pos]; exact rfl)))
 refine aops_end (hK _ (dwK [1, 2, 3, 8, 29, 30] ?_))
 clear hK K
 refine dw_block (dw_loop (X := Nat × List Int) (fun x => x.2.length = N.ends.length ∧ x.1 ≤ N.ends.length ∧ ∀ j, j < x.1 → gi x.2 j = 1) (fun x => mkE 88 [(1, .c (.p (.int .i64 v))), (2, .c (.p (.int .i64 t))), (3, .box), (8, .own false 1), (29, .c (.p (.int .i64 N.ends.length))), (30, .c (.p (.int .i64 x.1)))] [((3, 0), ⟨some 27, [C.sl false f.t1 1 (N.ends.map fun es => [C.sl f.o2 f.t2 2 (es.map eC)]), C.sl false f.t3 1 (N.ids.map iC), C.sl false f.t4 1 (N.inputs.map iC)]⟩), ((8, 0), ⟨none, [.sl true 3 1 (x.2.map iC)]⟩)]) (fun x => N.ends.length - x.1) (0, List.replicate N.ends.length 0) ⟨by simp, by simp, fun _ h => by simp at h⟩ (Weak.of_eq rfl) ?_)
 rintro ⟨k, L⟩ ⟨hL, hk, h1⟩
 dsimp only at hL hk h1 ⊢
 refine dw_seq (dwR fun K hK => ?_)
 repeat refine evF ?_
 refine aops_end (hK _ (dwK [1, 2, 3, 8, 29, 30, 31] ?_))
 clear hK K
 refine dw_seq (dwI (fun hb => ?_) (fun hb => ?_))
 ·refine dw_skip ?_
  show DW _ _ _ _ _
  have hk1 : k < N.ends.length := by simpa using hb
  refine dw_seq (dw_block ?_)
  refine dw_seq (dwR fun K hK => ?_)
  repeat refine evF ?_
  refine aops_end (hK _ (dwK [1, 2, 3, 8, 9, 29, 30] ?_))
  clear hK K
  refine dwR fun K hK => ?_
  repeat (apply aops_ev; (focus exact rfl); (focus (simp (disch := first | omega | (intros; contradiction)) only [bunK, bunX, C.at, C.put, List.dropLast, List.isPrefixOf, Nat.reduceMul, Nat.reduceLT, Nat.reduceLeDiff, Nat.reduceBEq, Nat.reduceEqDiff, reduceCtorEq, Nat.reduceAdd, ↓reduceIte , tab25, tab3, List.length_map, if_pos, rowi]; exact rfl)))
  have dfk := @puti
  refine aops_end (hK _ (dwKF [1, 2, 3, 8, 29, 30] ?_))
  clear hK K
  refine dwR fun K hK => ?_
  repeat refine evF ?_
  have dfk := @castS
  refine aops_end (hK _ ?_)
  clear hK K
  show ∃ x, _ ∧ _ ∧ Weak _ _
  refine ⟨(k + 1, L.set k 1), ?_, ?_, weakFk [1, 2, 3, 8, 29, 30]⟩
  ·refine ⟨by simpa using hL, hk1, fun j hj => ?_⟩
   rw [gis (by omega)]
   split
   ·rfl
   ·exact h1 j (by omega)
  ·omega
 ·have hk2 : ¬ k < N.ends.length := by simpa using hb
  have hL1 : L = List.replicate N.ends.length 1 := by
   apply List.ext_getElem
   ·simpa using hL
   ·intro j h2 h3
    have h4 := h1 j (by omega)
    rw [gi_lt h2] at h4
    simpa using h4
  subst hL1
  refine dw_leave3 ?_
  refine dw_keep [1, 2, 3, 8] (by simp only [bunK, C.at, C.put, List.dropLast, List.isPrefixOf, Nat.reduceMul, Nat.reduceLT, Nat.reduceLeDiff, Nat.reduceBEq, Nat.reduceEqDiff, reduceCtorEq, Nat.reduceAdd, ↓reduceIte]; exact rfl) ?_
  refine dw_seq (dw_block (dw_loop (X := Nat) (fun x => x ≤ t) (fun x => mkE 88 [(1, .c (.p (.int .i64 v))), (2, .c (.p (.int .i64 ((t : Int) - x)))), (3, .box), (8, .own false 1)] [((3, 0), ⟨some 27, [C.sl false f.t1 1 (N.ends.map fun es => [C.sl f.o2 f.t2 2 (es.map eC)]), C.sl false f.t3 1 (N.ids.map iC), C.sl false f.t4 1 (N.inputs.map iC)]⟩), ((8, 0), ⟨none, [.sl true 3 1 ((vsz N x).map iC)]⟩)]) (fun x => t - x) 0 (by omega) (Weak.of_eq (by simp only [Int.natCast_zero, Int.sub_zero]; rfl)) ?_))
  ·intro T hT
   refine dw_seq ?_
   refine dw_seq (dwR fun K hK => ?_)
   repeat refine evF ?_
   refine aops_end (hK _ (dwK [1, 2, 3, 8, 38] ?_))
   clear hK K
   refine dwI (fun hb => ?_) (fun hb => ?_)
   ·refine dw_skip ?_
    show DW _ _ _ _ _
    have hT1 : T < t := by simp only [decide_eq_true_eq] at hb; omega
    refine dw_seq (dw_block ?_)
    refine dw_seq (dwR fun K hK => ?_)
    repeat (apply aops_ev; (focus exact rfl); (focus (simp (disch := first | omega | (intros; contradiction)) only [bunK, bunX, C.at, C.put, List.dropLast, List.isPrefixOf, Nat.reduceMul, Nat.reduceLT, Nat.reduceLeDiff, Nat.reduceBEq, Nat.reduceEqDiff, reduceCtorEq, Nat.reduceAdd, ↓reduceIte , tab27, tab24, tab25, tab3, if_pos]; exact rfl)))
    have dfk := @zrows
    refine aops_end (hK _ (dwKF [1, 2, 3, 8, 10] ?_))
    clear hK K
    refine dw_seq ?_
    refine dw_seq (dwR fun K hK => ?_)
    repeat (apply aops_ev; (focus exact rfl); (focus (simp (disch := first | omega | (intros; contradiction)) only [bunK, bunX, C.at, C.put, List.dropLast, List.isPrefixOf, Nat.reduceMul, Nat.reduceLT, Nat.reduceLeDiff, Nat.reduceBEq, Nat.reduceEqDiff, reduceCtorEq, Nat.reduceAdd, ↓reduceIte , tab27, tab24, tab25, tab3, if_pos]; exact rfl)))
    refine aops_end (hK _ (dwK [1, 2, 3, 8, 10, 46, 47, 48] ?_))
    clear hK K
    refine dw_block (dw_loop (X := Nat × List Int) (fun x => x.2.length = N.ends.length ∧ x.1 ≤ N.ends.length ∧ ∀ j, j < x.1 → gi x.2 j = vsum (vsz N T) (gl N.ends j)) (fun x => mkE 88 [(1, .c (.p (.int .i64 v))), (2, .c (.p (.int .i64 ((t : Int) - T)))), (3, .box), (8, .own false 1), (10, .own false 1), (46, .c (.sl false f.t1 1 (N.ends.map fun es => [C.sl f.o2 f.t2 2 (es.map eC)]))), (47, .c (.p (.int .i64 N.ends.length))), (48, .c (.p (.int .i64 x.1)))] [((3, 0), ⟨some 27, [C.sl false f.t1 1 (N.ends.map fun es => [C.sl f.o2 f.t2 2 (es.map eC)]), C.sl false f.t3 1 (N.ids.map iC), C.sl false f.t4 1 (N.inputs.map iC)]⟩), ((8, 0), ⟨none, [.sl true 3 1 ((vsz N T).map iC)]⟩), ((10, 0), ⟨none, [.sl true 3 1 (x.2.map iC)]⟩)]) (fun x => N.ends.length - x.1) (0, List.replicate N.ends.length 0) ⟨by simp, by simp, fun _ h => by simp at h⟩ (Weak.of_eq rfl) ?_)
    ·rintro ⟨k, L⟩ ⟨hL, hk, h1⟩
     dsimp only at hL hk h1 ⊢
     refine dw_seq (dwR fun K hK => ?_)
     repeat refine evF ?_
     refine aops_end (hK _ (dwK [1, 2, 3, 8, 10, 46, 47, 48, 49] ?_))
     clear hK K
     refine dw_seq (dwI (fun hb => ?_) (fun hb => ?_))
     ·refine dw_skip ?_
      show DW _ _ _ _ _
      have hk1 : k < N.ends.length := by simpa using hb
      refine dw_seq (dw_block ?_)
      refine dw_seq (dwR fun K hK => ?_)
      repeat (apply aops_ev; (focus exact rfl); (focus (simp (disch := first | omega | (intros; contradiction)) only [bunK, bunX, C.at, C.put, List.dropLast, List.isPrefixOf, Nat.reduceMul, Nat.reduceLT, Nat.reduceLeDiff, Nat.reduceBEq, Nat.reduceEqDiff, reduceCtorEq, Nat.reduceAdd, ↓reduceIte , tab24, tab38, tab40, if_pos, getDe]; exact rfl)))
      refine aops_end (hK _ (dwK [1, 2, 3, 8, 10, 11, 12, 46, 47, 48] ?_))
      clear hK K
      refine dw_seq (dwR fun K hK => ?_)
      repeat (apply aops_ev; (focus exact rfl); (focus (simp (disch := first | omega | (intros; contradiction)) only [bunK, bunX, C.at, C.put, List.dropLast, List.isPrefixOf, Nat.reduceMul, Nat.reduceLT, Nat.reduceLeDiff, Nat.reduceBEq, Nat.reduceEqDiff, reduceCtorEq, Nat.reduceAdd, ↓reduceIte , tab25, tab3, if_pos, rowi]; exact rfl)))
      have dfk := @puti
      refine aops_end (hK _ (dwKF [1, 2, 3, 8, 10, 11, 12, 46, 47, 48] ?_))
      clear hK K
      refine dw_seq (dwR fun K hK => ?_)
      repeat (apply aops_ev; (focus exact rfl); (focus (simp (disch := first | omega | (intros; contradiction)) only [bunK, bunX, C.at, C.put, List.dropLast, List.isPrefixOf, Nat.reduceMul, Nat.reduceLT, Nat.reduceLeDiff, Nat.reduceBEq, Nat.reduceEqDiff, reduceCtorEq, Nat.reduceAdd, ↓reduceIte , tab38, if_pos]; exact rfl)))
      refine aops_end (hK _ (dwK [1, 2, 3, 8, 10, 11, 46, 47, 48, 56, 57, 58] ?_))
      clear hK K
      generalize hes : gl N.ends k = es
      refine dw_block (dw_loop (X := Nat × Int) (fun x => x.1 ≤ es.length ∧ x.2 = vsum (vsz N T) (es.take x.1)) (fun x => mkE 88 [(1, .c (.p (.int .i64 v))), (2, .c (.p (.int .i64 ((t : Int) - T)))), (3, .box), (8, .own false 1), (10, .own false 1), (11, .c (.p (.int .i64 k))), (46, .c (.sl false f.t1 1 (N.ends.map fun es => [C.sl f.o2 f.t2 2 (es.map eC)]))), (47, .c (.p (.int .i64 N.ends.length))), (48, .c (.p (.int .i64 k))), (56, .c (.sl f.o2 f.t2 2 (es.map eC))), (57, .c (.p (.int .i64 es.length))), (58, .c (.p (.int .i64 x.1)))] [((3, 0), ⟨some 27, [C.sl false f.t1 1 (N.ends.map fun es => [C.sl f.o2 f.t2 2 (es.map eC)]), C.sl false f.t3 1 (N.ids.map iC), C.sl false f.t4 1 (N.inputs.map iC)]⟩), ((8, 0), ⟨none, [.sl true 3 1 ((vsz N T).map iC)]⟩), ((10, 0), ⟨none, [.sl true 3 1 ((L.set k x.2).map iC)]⟩)]) (fun x => es.length - x.1) (0, 1) ⟨by simp, by simp [vsum]⟩ (Weak.of_eq rfl) ?_)
      ·rintro ⟨i, a⟩ ⟨hi, ha⟩
       dsimp only at hi ha ⊢
       refine dw_seq (dwR fun K hK => ?_)
       repeat refine evF ?_
       refine aops_end (hK _ (dwK [1, 2, 3, 8, 10, 11, 46, 47, 48, 56, 57, 58, 59] ?_))
       clear hK K
       refine dw_seq (dwI (fun hb => ?_) (fun hb => ?_))
       ·refine dw_skip ?_
        show DW _ _ _ _ _
        have hi1 : i < es.length := by simpa using hb
        have hva := vsum_in (vsz_in N T) (es.take i) 1 (by omega)
        rw [show (es.take i).foldl (fun a e => lst (a + gi (vsz N T) e.1.toNat) 1000001) 1 = a from ha.symm] at hva
        have hvl := vsz_len N T
        have hvi := vsz_in N T (gp es i).1.toNat
        have hee := (node_rows hn hk1).2 i (by rw [hes]; exact hi1)
        rw [hes] at hee
        have he6 := (node_rows hn hk1).1
        rw [hes] at he6
        refine dw_seq (dw_block ?_)
        refine dw_seq (dwR fun K hK => ?_)
        repeat (apply aops_ev; (focus exact rfl); (focus (simp (disch := first | omega | (intros; contradiction)) only [bunK, bunX, C.at, C.put, List.dropLast, List.isPrefixOf, Nat.reduceMul, Nat.reduceLT, Nat.reduceLeDiff, Nat.reduceBEq, Nat.reduceEqDiff, reduceCtorEq, Nat.reduceAdd, ↓reduceIte , tab38, tab40, tab3, if_pos, getDp, List.take_succ_cons, List.take_zero]; exact rfl)))
        refine aops_end (hK _ (dwK [1, 2, 3, 8, 10, 11, 14, 46, 47, 48, 56, 57, 58] ?_))
        clear hK K
        refine dwRD vsSt (fun j r => match j with | 12 => r = [.c (.p (.int .i64 (if a + gi (vsz N T) (gp es i).1.toNat < 1000001 then a + gi (vsz N T) (gp es i).1.toNat else 1000001)))] | _ => True) fun K hK => ?_
        repeat (apply dops_ev; (focus exact rfl); (focus simp (disch := first | omega | (intros; contradiction)) only [bunK, bunX, bunS, C.at, C.put, List.dropLast, List.isPrefixOf, Nat.reduceMul, Nat.reduceLT, Nat.reduceLeDiff, Nat.reduceBEq, Nat.reduceEqDiff, reduceCtorEq, Nat.reduceAdd, ↓reduceIte , vsSt, tab25, tab3, tab40, if_pos, rowi, rowis]); (focus (simp (disch := first | omega | (intros; contradiction)) only [bunK, bunX, C.at, C.put, List.dropLast, List.isPrefixOf, Nat.reduceMul, Nat.reduceLT, Nat.reduceLeDiff, Nat.reduceBEq, Nat.reduceEqDiff, reduceCtorEq, Nat.reduceAdd, ↓reduceIte , vsSt, tab25, tab3, tab40, if_pos, rowi, rowis]; exact rfl)))
        refine dops_call rfl ⟨rfl, _, rfl⟩ (by omega) (by first | exact may33) (by simp only [bunK, bunX, bunS, C.at, C.put, List.dropLast, List.isPrefixOf, Nat.reduceMul, Nat.reduceLT, Nat.reduceLeDiff, Nat.reduceBEq, Nat.reduceEqDiff, reduceCtorEq, Nat.reduceAdd, ↓reduceIte , may33, vsSt, tab25, tab3, tab40, if_pos, rowi, rowis]) (by simp only [bunK, bunX, bunS, C.at, C.put, List.dropLast, List.isPrefixOf, Nat.reduceMul, Nat.reduceLT, Nat.reduceLeDiff, Nat.reduceBEq, Nat.reduceEqDiff, reduceCtorEq, Nat.reduceAdd, ↓reduceIte , may33, vsSt, tab25, tab3, tab40, if_pos, rowi, rowis]) (by simp only [bunK, bunX, bunS, C.at, C.put, List.dropLast, List.isPrefixOf, Nat.reduceMul, Nat.reduceLT, Nat.reduceLeDiff, Nat.reduceBEq, Nat.reduceEqDiff, reduceCtorEq, Nat.reduceAdd, ↓reduceIte , may33, vsSt, tab25, tab3, tab40, if_pos, rowi, rowis]) (by simp (disch := first | omega | (intros; contradiction)) only [bunK, bunX, C.at, C.put, List.dropLast, List.isPrefixOf, Nat.reduceMul, Nat.reduceLT, Nat.reduceLeDiff, Nat.reduceBEq, Nat.reduceEqDiff, reduceCtorEq, Nat.reduceAdd, ↓reduceIte , may33, vsSt, tab25, tab3, tab40, if_pos, rowi, rowis] <;> exact rfl) (l1Least_d _ _) rfl ⟨_, rfl⟩ ?_
        rintro _ rfl
        repeat (apply dops_ev; (focus exact rfl); (focus simp (disch := first | omega | (intros; contradiction)) only [bunK, bunX, bunS, C.at, C.put, List.dropLast, List.isPrefixOf, Nat.reduceMul, Nat.reduceLT, Nat.reduceLeDiff, Nat.reduceBEq, Nat.reduceEqDiff, reduceCtorEq, Nat.reduceAdd, ↓reduceIte , may33, vsSt, tab25, tab3, tab40, if_pos, rowi, rowis]); (focus (simp (disch := first | omega | (intros; contradiction)) only [bunK, bunX, C.at, C.put, List.dropLast, List.isPrefixOf, Nat.reduceMul, Nat.reduceLT, Nat.reduceLeDiff, Nat.reduceBEq, Nat.reduceEqDiff, reduceCtorEq, Nat.reduceAdd, ↓reduceIte , may33, vsSt, tab25, tab3, tab40, if_pos, rowi, rowis]; exact rfl)))
        have dfk := And.intro @puti @setk
        refine dops_end (hK _ (dwKF [1, 2, 3, 8, 10, 11, 46, 47, 48, 56, 57, 58] ?_))
        clear hK K
        refine dwR fun K hK => ?_
        repeat refine evF ?_
        have dfk := @castS
        refine aops_end (hK _ ?_)
        clear hK K
        show ∃ x, _ ∧ _ ∧ Weak _ _
        refine ⟨(i + 1, if a + gi (vsz N T) (gp es i).1.toNat < 1000001 then a + gi (vsz N T) (gp es i).1.toNat else 1000001), ?_, ?_, weakFk [1, 2, 3, 8, 10, 11, 46, 47, 48, 56, 57, 58]⟩
        ·refine ⟨hi1, ?_⟩
         rw [vsum_take hi1, ← ha]; rfl
        ·dsimp only; omega
       ·have hi2 : i = es.length := by
         have : ¬ i < es.length := by simpa using hb
         omega
        refine dw_leave3 ?_
        refine dw_keep [1, 2, 3, 8, 10, 46, 47, 48] (by simp only [bunK, C.at, C.put, List.dropLast, List.isPrefixOf, Nat.reduceMul, Nat.reduceLT, Nat.reduceLeDiff, Nat.reduceBEq, Nat.reduceEqDiff, reduceCtorEq, Nat.reduceAdd, ↓reduceIte]; exact rfl) ?_
        refine dwR fun K hK => ?_
        repeat refine evF ?_
        have dfk := @castS
        refine aops_end (hK _ ?_)
        clear hK K
        show ∃ x, _ ∧ _ ∧ Weak _ _
        refine ⟨(k + 1, L.set k a), ?_, ?_, weakFk [1, 2, 3, 8, 10, 46, 47, 48]⟩
        ·refine ⟨by simpa using hL, hk1, fun j hj => ?_⟩
         rw [gis (by omega)]
         split
         ·rename_i hjk
          rw [hjk, hes, ha, hi2, List.take_length]
         ·exact h1 j (by omega)
        ·dsimp only; omega
     ·have hk3 : k = N.ends.length := by
       have : ¬ k < N.ends.length := by simpa using hb
       omega
      have hL2 : L = vsz N (T + 1) := by
       apply List.ext_getElem
       ·rw [hL, vsz_len]
       ·intro j h2 h3
        have h4 := h1 j (by omega)
        rw [gi_lt h2] at h4
        rw [h4]
        have hj : j < N.ends.length := by omega
        simp only [vsz, vsStep, List.getElem_map, List.getElem_range]
      subst hL2
      refine dw_leave3 ?_
      refine dw_keep [1, 2, 3, 8, 10] (by simp only [bunK, C.at, C.put, List.dropLast, List.isPrefixOf, Nat.reduceMul, Nat.reduceLT, Nat.reduceLeDiff, Nat.reduceBEq, Nat.reduceEqDiff, reduceCtorEq, Nat.reduceAdd, ↓reduceIte]; exact rfl) ?_
      refine dwR fun K hK => ?_
      repeat refine evF ?_
      refine aops_end (hK _ (dwK [1, 2, 3, 8] ?_))
      clear hK K
      refine dwR fun K hK => ?_
      repeat refine evF ?_
      have dfk := And.intro @castS @Int.sub_sub
      refine aops_end (hK _ ?_)
      clear hK K
      show ∃ x, _ ∧ _ ∧ Weak _ _
      refine ⟨T + 1, ?_, ?_, weakFk [1, 2, 3, 8]⟩
      ·omega
      ·omega
   ·have hT1 : T = t := by
     have : ¬ ((t : Int) - T > 0) := by simpa using hb
     omega
    subst hT1
    have hvl := vsz_len N T
    have hvi := vsz_in N T v
    refine dw_leave3 ?_
    refine dw_keep [1, 8] (by simp only [bunK, C.at, C.put, List.dropLast, List.isPrefixOf, Nat.reduceMul, Nat.reduceLT, Nat.reduceLeDiff, Nat.reduceBEq, Nat.reduceEqDiff, reduceCtorEq, Nat.reduceAdd, ↓reduceIte]; exact rfl) ?_
    refine dw_seq ?_
    refine dw_seq (dwR fun K hK => ?_)
    repeat (apply aops_ev; (focus exact rfl); (focus (simp (disch := first | omega | (intros; contradiction)) only [bunK, bunX, C.at, C.put, List.dropLast, List.isPrefixOf, Nat.reduceMul, Nat.reduceLT, Nat.reduceLeDiff, Nat.reduceBEq, Nat.reduceEqDiff, reduceCtorEq, Nat.reduceAdd, ↓reduceIte , tab25, tab3, if_pos, rowi]; exact rfl)))
    refine aops_end (hK _ (dwK [1, 8, 83] ?_))
    clear hK K
    refine dwI (fun hb => ?_) (fun hb => ?_)
    ·have hgt : gi (vsz N T) v > 1000000 := by simpa using hb
     refine dw_seq (dwR fun K hK => ?_)
     repeat refine evF ?_
     refine aops_end (hK _ (dwK [6, 7] ?_))
     clear hK K
     exact dw_ret (fin_ret Try.results12 (.two (.plain _ _ rfl) (.plain _ _ rfl)) (by decide) (by rw [if_pos hgt]))
    ·have hgt : ¬ gi (vsz N T) v > 1000000 := by simpa using hb
     refine dw_skip ?_
     show DW _ _ _ _ _
     refine dw_seq (dwR fun K hK => ?_)
     repeat (apply aops_ev; (focus exact rfl); (focus (simp (disch := first | omega | (intros; contradiction)) only [bunK, bunX, C.at, C.put, List.dropLast, List.isPrefixOf, Nat.reduceMul, Nat.reduceLT, Nat.reduceLeDiff, Nat.reduceBEq, Nat.reduceEqDiff, reduceCtorEq, Nat.reduceAdd, ↓reduceIte , tab25, tab3, if_pos, rowi]; exact rfl)))
     refine aops_end (hK _ (dwK [6, 7] ?_))
     clear hK K
     exact dw_ret (fin_ret Try.results12 (.two (.plain _ _ rfl) (.plain _ _ rfl)) (by decide) (by rw [if_neg hgt]))
end
section
open Go Go.RowKit
def psum (s : List Int) (es : List (Int × Int)) : Int := es.foldl (fun a e => a + gi s e.1.toNat) 1
theorem cap_ge {s : List Int} (h0 : ∀ j, 0 ≤ gi s j) : ∀ (es : List (Int × Int)) (a : Int), a ≤ 1000001 → a ≤ es.foldl (fun a e => lst (a + gi s e.1.toNat) 1000001) a
 | [], a, _ => Int.le_refl _
 | e :: es, a, ha => by
  rw [List.foldl_cons]
  have h1 := h0 e.1.toNat
  have h2 : a ≤ lst (a + gi s e.1.toNat) 1000001 ∧ lst (a + gi s e.1.toNat) 1000001 ≤ 1000001 := by unfold lst; split <;> omega
  exact Int.le_trans h2.1 (cap_ge h0 es _ h2.2)
theorem cap_sum {s : List Int} (h0 : ∀ j, 0 ≤ gi s j) : ∀ (es : List (Int × Int)) (a : Int), 0 ≤ a → es.foldl (fun a e => lst (a + gi s e.1.toNat) 1000001) a ≤ 1000000 →
 es.foldl (fun a e => lst (a + gi s e.1.toNat) 1000001) a = es.foldl (fun a e => a + gi s e.1.toNat) a ∧ ∀ e ∈ es, gi s e.1.toNat ≤ 1000000
 | [], a, _, _ => ⟨rfl, fun e he => by cases he⟩
 | e :: es, a, ha, h => by
  rw [List.foldl_cons] at h ⊢
  rw [List.foldl_cons]
  have h1 := h0 e.1.toNat
  have h2 : lst (a + gi s e.1.toNat) 1000001 ≤ 1000000 := Int.le_trans (cap_ge h0 es _ (by unfold lst; split <;> omega)) h
  have h3 : lst (a + gi s e.1.toNat) 1000001 = a + gi s e.1.toNat := by
   unfold lst at h2 ⊢
   split at h2
   ·rename_i h4; rw [if_pos h4]
   ·omega
  rw [h3] at h h2 ⊢
  obtain ⟨h4, h5⟩ := cap_sum h0 es _ (by omega) h
  exact ⟨h4, fun x hx => by
   rcases List.mem_cons.1 hx with rfl | hx
   ·omega
   ·exact h5 x hx⟩
theorem size_parts {N : Net} {t v : Nat} (hv : v < N.ends.length) (h : ¬ gi (vsz N (t + 1)) v > 1000000) : gi (vsz N (t + 1)) v = psum (vsz N t) (gl N.ends v) ∧ ∀ e ∈ gl N.ends v, ¬ gi (vsz N t) e.1.toNat > 1000000 := by
 have hg : gi (vsz N (t + 1)) v = vsum (vsz N t) (gl N.ends v) := by
  show gi (vsStep N (vsz N t)) v = _
  unfold vsStep
  rw [gi_lt (by simpa using hv), List.getElem_map, List.getElem_range]
 rw [hg] at h ⊢
 obtain ⟨h1, h2⟩ := cap_sum (fun j => (vsz_in N t j).1) (gl N.ends v) 1 (by omega) (by unfold vsum at h; omega)
 exact ⟨h1, fun e he => by have := h2 e he; omega⟩
end
section
open Go Go.RowKit
noncomputable def vsL (k : Nat → List Int) (n v : Nat) : List Int := (List.range n).map fun j => if j < v then (nm k j : Int) else 0
theorem vsL_len (k : Nat → List Int) (n v : Nat) : (vsL k n v).length = n := by simp [vsL]
theorem vsL_at {k : Nat → List Int} {n v j : Nat} (hj : j < n) : gi (vsL k n v) j = if j < v then (nm k j : Int) else 0 := by simp [vsL, gi, hj]
theorem vsL_zero (k : Nat → List Int) (n : Nat) : vsL k n 0 = List.replicate n 0 := by
 apply List.ext_getElem
 ·simp [vsL]
 ·intro i h1 h2; simp [vsL]
theorem vsL_step (k : Nat → List Int) {n v : Nat} (hv : v < n) : (vsL k n v).set v (nm k v : Int) = vsL k n (v + 1) := by
 apply List.ext_getElem
 ·simp [vsL]
 ·intro i h1 h2
  rw [List.getElem_set]
  simp only [vsL, List.getElem_map, List.getElem_range]
  by_cases h : v = i
  ·subst h; simp
  ·rw [if_neg h]
   by_cases h3 : i < v
   ·rw [if_pos h3, if_pos (by omega)]
   ·rw [if_neg h3, if_neg (by omega)]
theorem vsL_all (k : Nat → List Int) (n : Nat) : vsL k n n = clsK k n := by
 apply List.ext_getElem
 ·simp [vsL, clsK]
 ·intro i h1 h2
  have : i < n := by simpa [vsL] using h1
  simp [vsL, clsK, this]
theorem dfxVw2 : type_of% (And.intro tab27 (And.intro tab24 (And.intro tab25 (And.intro tab3 (And.intro @if_pos.{1} (And.intro @rowi (And.intro @zrows @trivial))))))) := And.intro tab27 (And.intro tab24 (And.intro tab25 (And.intro tab3 (And.intro @if_pos.{1} (And.intro @rowi (And.intro @zrows @trivial))))))
set_option maxRecDepth 8000 in
set_option maxHeartbeats 0 in
theorem viStep_d (f : NF) (o : Bool) (tt : TypeId) (N : Net) (cls : List Int) (hf : Fine N) (hin : N.inputs.length = N.ends.length) (hl : N.ends.length ≤ 100000) (hc : cls = [] ∨ cls.length = N.ends.length) : DCalls Try.prog 37 [.agg (netC f N), .c (ints o tt cls)] (fun r => r = [.own false [.sl true 3 1 ((clsK (wkL N cls) N.ends.length).map iC)]]) := by -- params impl.Network, []int
 refine dcalls_of Try.func37 rfl (by rw [Try.ntmps37]; simp) fun w0 => ?_
 rw [Try.ntmps37]
 have dfx := dfxVw2
 simp only [initE, argsL, Arg.av, netC, endss, ints, ends]
 generalize hkk : wkL N cls = k
 refine dw_seq (dwR fun K hK => ?_)
 repeat refine evF ?_
 refine aops_end (hK _ (dwK [1, 2] ?_))
 clear hK K
 refine dw_seq (dwR fun K hK => ?_)
 repeat refine evF ?_
 refine aops_end (hK _ (dwK [1, 2, 5] ?_))
 clear hK K
 refine dw_seq (dwR fun K hK => ?_)
 repeat refine evF ?_
 refine aops_end (hK _ (dwK [1, 2, 5, 6] ?_))
 clear hK K
 refine dw_seq ?_
 refine dw_seq (dwR fun K hK => ?_)
 repeat refine evF ?_
 refine aops_end (hK _ (dwK [1, 2, 5, 6, 16, 17] ?_))
 clear hK K
 refine dw_block ?_
 refine dw_loopP (X := Nat) (fun v => v ≤ N.ends.length) (fun v => [(6, .c (.p (.int .i64 (cnB k v)))), (17, .c (.p (.int .i64 v)))]) (fun v => [((5, 0), ⟨none, [.sl true 3 1 ((vsL k N.ends.length v).map iC)]⟩)]) (fun v => N.ends.length - v) 0 (Nat.zero_le _) (by first | rfl | (simp only [bunK, C.at, C.put, List.dropLast, List.isPrefixOf, Nat.reduceMul, Nat.reduceLT, Nat.reduceLeDiff, Nat.reduceBEq, Nat.reduceEqDiff, reduceCtorEq, Nat.reduceAdd, ↓reduceIte, Int.natCast_zero, vsL_zero, cnB_zero] <;> rfl)) ?_
 rintro v hv
 intro E hE
 simp only [bunK, C.at, C.put, List.dropLast, List.isPrefixOf, Nat.reduceMul, Nat.reduceLT, Nat.reduceLeDiff, Nat.reduceBEq, Nat.reduceEqDiff, reduceCtorEq, Nat.reduceAdd, ↓reduceIte] at hE
 subst hE
 refine dw_seq (dwR fun K hK => ?_)
 repeat refine evF ?_
 refine aops_end (hK _ (dwK [1, 2, 5, 6, 16, 17, 18] ?_))
 clear hK K
 refine dw_seq (dwI (fun hb => ?_) (fun hb => ?_))
 ·refine dw_skip ?_
  show DW _ _ _ _ _
  have hv1 : v < N.ends.length := by simpa using hb
  have hvl := vsL_len k N.ends.length v
  have hcn := cnB_le k v
  refine dw_seq (dw_block ?_)
  refine dw_seq (dwR fun K hK => ?_)
  repeat refine evF ?_
  refine aops_end (hK _ (dwK [1, 2, 5, 6, 7, 16, 17] ?_))
  clear hK K
  refine dw_seq (dwR fun K hK => ?_)
  repeat refine evF ?_
  refine aops_end (hK _ (dwK [1, 2, 5, 6, 7, 8, 16, 17] ?_))
  clear hK K
  refine dw_seq ?_
  refine dw_seq (dwR fun K hK => ?_)
  repeat refine evF ?_
  refine aops_end (hK _ (dwK [1, 2, 5, 6, 7, 8, 9, 16, 17] ?_))
  clear hK K
  refine dw_block ?_
  refine dw_loopP (X := Nat × Int) (fun x => x.1 ≤ v ∧ ((x.2 = -1 ∧ ∀ j, j < x.1 → k j ≠ k v) ∨ ∃ j : Nat, x.2 = j ∧ j < v ∧ k j = k v)) (fun x => [(8, .c (.p (.int .i64 x.2))), (9, .c (.p (.int .i64 x.1)))]) (fun x => []) (fun x => v - x.1) (0, -1) ⟨Nat.zero_le _, .inl ⟨rfl, fun j hj => absurd hj (by omega)⟩⟩ (by first | rfl | (simp only [bunK, C.at, C.put, List.dropLast, List.isPrefixOf, Nat.reduceMul, Nat.reduceLT, Nat.reduceLeDiff, Nat.reduceBEq, Nat.reduceEqDiff, reduceCtorEq, Nat.reduceAdd, ↓reduceIte, Int.natCast_zero] <;> rfl)) ?_
  rintro ⟨u, a⟩ ⟨hu, hua⟩
  intro E hE
  simp only [bunK, C.at, C.put, List.dropLast, List.isPrefixOf, Nat.reduceMul, Nat.reduceLT, Nat.reduceLeDiff, Nat.reduceBEq, Nat.reduceEqDiff, reduceCtorEq, Nat.reduceAdd, ↓reduceIte] at hE
  subst hE
  dsimp only at hu hua ⊢
  refine dw_seq ?_
  refine dw_seq (dwR fun K hK => ?_)
  repeat refine evF ?_
  obtain h1 | h1 := Bool.eq_false_or_eq_true (decide ((u : Int) < (v : Int)))
  ·have hu1 : u < v := by simpa using h1
   rcases hua with ⟨rfl, hno⟩ | ⟨j, rfl, hj, hkj⟩
   ·repeat (apply aops_ev; (focus exact rfl); (focus (simp (disch := first | omega | (intros; contradiction)) only [bunK, bunX, C.at, C.put, List.dropLast, List.isPrefixOf, Nat.reduceMul, Nat.reduceLT, Nat.reduceLeDiff, Nat.reduceBEq, Nat.reduceEqDiff, reduceCtorEq, Nat.reduceAdd, ↓reduceIte, tab27, tab24, tab25, tab3, if_pos, rowi, zrows , h1, show decide ((-1 : Int) < 0) = true from rfl]; exact rfl)))
    refine aops_end (hK _ (dwK [1, 2, 5, 6, 7, 8, 9, 16, 17, 26] ?_))
    clear hK K
    refine dwI (fun hb => ?_) (fun hb => ?_)
    ·refine dw_skip ?_
     show DW _ _ _ _ _
     refine dw_seq (dw_block ?_)
     refine dw_seq (dwR fun K hK => ?_)
     repeat refine evF ?_
     refine clF rfl ⟨rfl, _, rfl⟩ (by omega) (by first | exact may58) (viAlike_d ⟨false, f.t1, f.o2, f.t2, false, f.t3, false, f.t4⟩ o tt N cls u v hf hin hc (by omega) hv1) ?_
     rintro _ rfl
     repeat refine evF ?_
     refine aops_end (hK _ (dwK [1, 2, 5, 6, 7, 8, 9, 16, 17, 33] ?_))
     clear hK K
     rw [hkk]
     refine dwI (fun hb => ?_) (fun hb => ?_)
     ·have hkj : k u = k v := by simpa using hb
      refine dwR fun K hK => ?_
      repeat refine evF ?_
      refine aops_end (hK _ (dwK [1, 2, 5, 6, 7, 8, 9, 16, 17] ?_))
      clear hK K
      refine dwR fun K hK => ?_
      repeat refine evF ?_
      have dfk := @castS
      refine aops_end (hK _ ?_)
      clear hK K
      show ∃ x, _ ∧ _ ∧ Weak _ _
      refine ⟨(u + 1, (u : Int)), ?_, ?_, weakFk [1, 2, 5, 6, 7, 8, 9, 16, 17]⟩
      ·exact ⟨hu1, .inr ⟨u, rfl, hu1, hkj⟩⟩
      ·dsimp only; omega
     ·have hkn : k u ≠ k v := by simpa using hb
      refine dw_skip ?_
      show DW _ _ _ _ _
      refine dwR fun K hK => ?_
      repeat refine evF ?_
      have dfk := @castS
      refine aops_end (hK _ ?_)
      clear hK K
      show ∃ x, _ ∧ _ ∧ Weak _ _
      refine ⟨(u + 1, -1), ?_, ?_, weakFk [1, 2, 5, 6, 7, 8, 9, 16, 17]⟩
      ·refine ⟨hu1, .inl ⟨rfl, fun j hj => ?_⟩⟩
       by_cases hju : j = u
       ·subst hju; exact hkn
       ·exact hno j (by dsimp only at hj; omega)
      ·dsimp only; omega
    ·cases hb
   ·repeat (apply aops_ev; (focus exact rfl); (focus (simp (disch := first | omega | (intros; contradiction)) only [bunK, bunX, C.at, C.put, List.dropLast, List.isPrefixOf, Nat.reduceMul, Nat.reduceLT, Nat.reduceLeDiff, Nat.reduceBEq, Nat.reduceEqDiff, reduceCtorEq, Nat.reduceAdd, ↓reduceIte, tab27, tab24, tab25, tab3, if_pos, rowi, zrows , h1, show decide ((j : Int) < 0) = false by simp]; exact rfl)))
    refine aops_end (hK _ (dwK [1, 2, 5, 6, 7, 8, 9, 16, 17, 26] ?_))
    clear hK K
    refine dwI (fun hb => ?_) (fun hb => ?_)
    ·cases hb
    ·have hge : (j : Int) ≥ 0 := by omega
     refine dw_leave3 ?_  -- exit 2
     refine dw_keep [1, 2, 5, 6, 7, 8, 16, 17] (by simp only [bunK, C.at, C.put, List.dropLast, List.isPrefixOf, Nat.reduceMul, Nat.reduceLT, Nat.reduceLeDiff, Nat.reduceBEq, Nat.reduceEqDiff, reduceCtorEq, Nat.reduceAdd, ↓reduceIte]; exact rfl) ?_
     refine dw_seq (dwR fun K hK => ?_)
     repeat (apply aops_ev; (focus exact rfl); (focus (simp (disch := first | omega | (intros; contradiction)) only [bunK, bunX, C.at, C.put, List.dropLast, List.isPrefixOf, Nat.reduceMul, Nat.reduceLT, Nat.reduceLeDiff, Nat.reduceBEq, Nat.reduceEqDiff, reduceCtorEq, Nat.reduceAdd, ↓reduceIte, tab27, tab24, tab25, tab3, if_pos, rowi, zrows , decide_eq_true hge]; exact rfl)))
     refine aops_end (hK _ (dwK [1, 2, 5, 6, 7, 8, 16, 17, 36] ?_))
     clear hK K
     refine dwI (fun hb => ?_) (fun hb => ?_)
     ·have hnj : gi (vsL k N.ends.length v) j = (nm k v : Int) := by rw [vsL_at (by omega), if_pos hj, nm_eq hkj]
      have hcs : cnB k (v + 1) = cnB k v := by
       rw [cnB_succ, if_neg]; · rfl
       rw [newB_iff]; exact fun h => h j hj hkj
      have dfx := And.intro dfx (@hnj)
      refine dwR fun K hK => ?_
      repeat refine evF ?_
      refine aops_end (hK _ (dw_keep [1, 2, 5, 6, 16, 17] (by simp only [bunK, C.at, C.put, List.dropLast, List.isPrefixOf, Nat.reduceMul, Nat.reduceLT, Nat.reduceLeDiff, Nat.reduceBEq, Nat.reduceEqDiff, reduceCtorEq, Nat.reduceAdd, ↓reduceIte , puti, vsL_step k hv1]; exact rfl) ?_))
      clear hK K
      refine dwR fun K hK => ?_
      repeat refine evF ?_
      have dfk := And.intro @castS @hcs
      refine aops_end (hK _ ?_)
      clear hK K
      show ∃ x, _ ∧ _ ∧ Weak _ _
      refine ⟨v + 1, ?_, ?_, weakFk [1, 2, 5, 6, 16, 17]⟩
      ·omega
      ·omega
     ·cases hb
  ·have hu1 : ¬ u < v := by simpa using h1
   have dfx := And.intro dfx (@h1)
   repeat refine evF ?_
   refine aops_end (hK _ (dwK [1, 2, 5, 6, 7, 8, 9, 16, 17, 26] ?_))
   clear hK K
   refine dwI (fun hb => ?_) (fun hb => ?_)
   ·cases hb
   ·rcases hua with ⟨rfl, hno⟩ | ⟨j, rfl, hj, hkj⟩
    ·refine dw_leave3 ?_  -- exit 2
     refine dw_keep [1, 2, 5, 6, 7, 8, 16, 17] (by simp only [bunK, C.at, C.put, List.dropLast, List.isPrefixOf, Nat.reduceMul, Nat.reduceLT, Nat.reduceLeDiff, Nat.reduceBEq, Nat.reduceEqDiff, reduceCtorEq, Nat.reduceAdd, ↓reduceIte]; exact rfl) ?_
     refine dw_seq (dwR fun K hK => ?_)
     repeat (apply aops_ev; (focus exact rfl); (focus (simp (disch := first | omega | (intros; contradiction)) only [bunK, bunX, C.at, C.put, List.dropLast, List.isPrefixOf, Nat.reduceMul, Nat.reduceLT, Nat.reduceLeDiff, Nat.reduceBEq, Nat.reduceEqDiff, reduceCtorEq, Nat.reduceAdd, ↓reduceIte, tab27, tab24, tab25, tab3, if_pos, rowi, zrows , show decide ((-1 : Int) ≥ 0) = false from rfl]; exact rfl)))
     refine aops_end (hK _ (dwK [1, 2, 5, 6, 7, 8, 16, 17, 36] ?_))
     clear hK K
     refine dwI (fun hb => ?_) (fun hb => ?_)
     ·cases hb
     ·have hnew : newB k v = true := newB_iff.2 fun j hj => hno j (by omega)
      have hnm : (cnB k v : Int) = (nm k v : Int) := by rw [nm_new hnew]
      have hcs : cnB k (v + 1) = cnB k v + 1 := by rw [cnB_succ, if_pos hnew]
      refine dw_seq (dwR fun K hK => ?_)
      repeat refine evF ?_
      refine aops_end (hK _ (dw_keep [1, 2, 5, 6, 16, 17] (by simp only [bunK, C.at, C.put, List.dropLast, List.isPrefixOf, Nat.reduceMul, Nat.reduceLT, Nat.reduceLeDiff, Nat.reduceBEq, Nat.reduceEqDiff, reduceCtorEq, Nat.reduceAdd, ↓reduceIte , puti, hnm, vsL_step k hv1]; exact rfl) ?_))
      clear hK K
      refine dwR fun K hK => ?_
      repeat refine evF ?_
      refine aops_end (hK _ (dwK [1, 2, 5, 6, 16, 17] ?_))
      clear hK K
      refine dwR fun K hK => ?_
      repeat refine evF ?_
      have dfk := And.intro @castS (And.intro @hcs @hnm)
      refine aops_end (hK _ ?_)
      clear hK K
      show ∃ x, _ ∧ _ ∧ Weak _ _
      refine ⟨v + 1, ?_, ?_, weakFk [1, 2, 5, 6, 16, 17]⟩
      ·omega
      ·omega
    ·have hge : (j : Int) ≥ 0 := by omega
     refine dw_leave3 ?_  -- exit 2
     refine dw_keep [1, 2, 5, 6, 7, 8, 16, 17] (by simp only [bunK, C.at, C.put, List.dropLast, List.isPrefixOf, Nat.reduceMul, Nat.reduceLT, Nat.reduceLeDiff, Nat.reduceBEq, Nat.reduceEqDiff, reduceCtorEq, Nat.reduceAdd, ↓reduceIte]; exact rfl) ?_
     refine dw_seq (dwR fun K hK => ?_)
     repeat (apply aops_ev; (focus exact rfl); (focus (simp (disch := first | omega | (intros; contradiction)) only [bunK, bunX, C.at, C.put, List.dropLast, List.isPrefixOf, Nat.reduceMul, Nat.reduceLT, Nat.reduceLeDiff, Nat.reduceBEq, Nat.reduceEqDiff, reduceCtorEq, Nat.reduceAdd, ↓reduceIte, tab27, tab24, tab25, tab3, if_pos, rowi, zrows , decide_eq_true hge]; exact rfl)))
     refine aops_end (hK _ (dwK [1, 2, 5, 6, 7, 8, 16, 17, 36] ?_))
     clear hK K
     refine dwI (fun hb => ?_) (fun hb => ?_)
     ·have hnj : gi (vsL k N.ends.length v) j = (nm k v : Int) := by rw [vsL_at (by omega), if_pos hj, nm_eq hkj]
      have hcs : cnB k (v + 1) = cnB k v := by
       rw [cnB_succ, if_neg]; · rfl
       rw [newB_iff]; exact fun h => h j hj hkj
      have dfx := And.intro dfx (@hnj)
      refine dwR fun K hK => ?_
      repeat refine evF ?_
      refine aops_end (hK _ (dw_keep [1, 2, 5, 6, 16, 17] (by simp only [bunK, C.at, C.put, List.dropLast, List.isPrefixOf, Nat.reduceMul, Nat.reduceLT, Nat.reduceLeDiff, Nat.reduceBEq, Nat.reduceEqDiff, reduceCtorEq, Nat.reduceAdd, ↓reduceIte , puti, vsL_step k hv1]; exact rfl) ?_))
      clear hK K
      refine dwR fun K hK => ?_
      repeat refine evF ?_
      have dfk := And.intro @castS @hcs
      refine aops_end (hK _ ?_)
      clear hK K
      show ∃ x, _ ∧ _ ∧ Weak _ _
      refine ⟨v + 1, ?_, ?_, weakFk [1, 2, 5, 6, 16, 17]⟩
      ·omega
      ·omega
     ·cases hb
 ·have hv2 : v = N.ends.length := by
   have : ¬ v < N.ends.length := by simpa using hb
   omega
  refine dw_leave3 ?_  -- exit 0
  refine dw_keep [5] (by simp only [bunK, C.at, C.put, List.dropLast, List.isPrefixOf, Nat.reduceMul, Nat.reduceLT, Nat.reduceLeDiff, Nat.reduceBEq, Nat.reduceEqDiff, reduceCtorEq, Nat.reduceAdd, ↓reduceIte]; exact rfl) ?_
  refine dw_seq (dwR fun K hK => ?_)
  repeat refine evF ?_
  refine aops_end (hK _ (dwK [4] ?_))
  clear hK K
  exact dw_ret (fin_ret Try.results37 (.one (.own _ _ _ _ rfl rfl (own1 (owned_ints _ _)))) (by decide) (by rw [hv2, vsL_all]))
end
section
open Go Go.RowKit
theorem Fine.rng {N : Net} (h : Fine N) (hp : 0 < N.ends.length) : Rng N := ⟨hp, fun u i hu hi => by have := h.node hu hi; omega⟩
theorem dcalls_nil2 {P : Program} {f : FuncId} {x : Arg} {t k : Nat} {Post : Res → Prop} (h : DCalls P f [x, .c (.sl false t k [])] Post) : DCalls P f [x, .c (.p (.slice none 0 0))] Post := fun w vs h1 h2 => h w vs h1 fun i y hy => by
 match i with
 | 0 => exact h2 0 y hy
 | 1 =>
  simp at hy
  subst hy
  obtain ⟨u, g1, g2⟩ := h2 1 _ rfl
  have hu : u = .slice none 0 0 := ro_p g2
  subst hu
  exact ⟨_, g1, RO.nil false t k none 0 (Nat.zero_le _)⟩
 | i + 2 => simp at hy
theorem keyL_nil (N : Net) : wkL N [] = vkey N none := by funext v; simp [wkL]
theorem keyL_cls {N : Net} (hp : 0 < N.ends.length) (t : Nat) : wkL N (vcls N t) = vkey N (some (vcls N t)) := by
 funext v
 unfold wkL
 rw [if_neg]
 intro h
 have := vcls_len N t
 rw [h] at this
 simp at this
 omega
theorem vcls_zero (N : Net) : clsK (wkL N []) N.ends.length = vcls N 0 := by rw [keyL_nil]; rfl
theorem vcls_succ {N : Net} (hp : 0 < N.ends.length) (t : Nat) : clsK (wkL N (vcls N t)) N.ends.length = vcls N (t + 1) := by rw [keyL_cls hp]; rfl
theorem dfxVw3 : type_of% (And.intro tab27 @trivial) := And.intro tab27 @trivial
set_option maxRecDepth 8000 in
set_option maxHeartbeats 0 in
theorem viClasses_d (f : NF) (N : Net) (t : Nat) (hf : Fine N) (hin : N.inputs.length = N.ends.length) (hl : N.ends.length ≤ 100000) (hp : 0 < N.ends.length) (ht : t ≤ 100000) : DCalls Try.prog 18 [.agg (netC f N), .c (.p (.int .i64 t))] (fun r => r = [.own false [.sl true 3 1 ((vcls N t).map iC)]]) := by -- params impl.Network, int
 refine dcalls_of Try.func18 rfl (by rw [Try.ntmps18]; simp) fun w0 => ?_
 rw [Try.ntmps18]
 have dfx := dfxVw3
 simp only [initE, argsL, Arg.av, netC, endss, ints, ends]
 refine dw_seq (dwR fun K hK => ?_)
 repeat refine evF ?_
 refine aops_end (hK _ (dwK [1, 2] ?_))
 clear hK K
 refine dw_seq (dwR fun K hK => ?_)
 repeat refine evF ?_
 refine clF rfl ⟨rfl, _, rfl⟩ (by omega) (by first | exact may37) (dcalls_nil2 (viStep_d ⟨false, f.t1, f.o2, f.t2, false, f.t3, false, f.t4⟩ false 3 N [] hf hin hl (.inl rfl))) ?_
 rintro _ rfl
 repeat refine evF ?_
 have dfk := @vcls_zero
 refine aops_end (hK _ (dwKF [1, 2, 5] ?_))
 clear hK K
 refine dw_seq (dw_block ?_)
 refine dw_loopP (X := Nat) (fun x => x ≤ t) (fun x => [(1, .c (.p (.int .i64 ((t : Int) - x))))]) (fun x => [((5, 0), ⟨none, [.sl true 3 1 ((vcls N x).map iC)]⟩)]) (fun x => t - x) 0 (Nat.zero_le _) (by first | rfl | (simp only [bunK, C.at, C.put, List.dropLast, List.isPrefixOf, Nat.reduceMul, Nat.reduceLT, Nat.reduceLeDiff, Nat.reduceBEq, Nat.reduceEqDiff, reduceCtorEq, Nat.reduceAdd, ↓reduceIte, Int.natCast_zero, Int.sub_zero] <;> rfl)) ?_
 rintro x hx
 intro E hE
 simp only [bunK, C.at, C.put, List.dropLast, List.isPrefixOf, Nat.reduceMul, Nat.reduceLT, Nat.reduceLeDiff, Nat.reduceBEq, Nat.reduceEqDiff, reduceCtorEq, Nat.reduceAdd, ↓reduceIte] at hE
 subst hE
 refine dw_seq ?_
 refine dw_seq (dwR fun K hK => ?_)
 repeat refine evF ?_
 refine aops_end (hK _ (dwK [1, 2, 5, 9] ?_))
 clear hK K
 refine dwI (fun hb => ?_) (fun hb => ?_)
 ·refine dw_skip ?_
  show DW _ _ _ _ _
  have hx1 : x < t := by simp at hb; omega
  refine dw_seq (dw_block ?_)
  refine dwR fun K hK => ?_
  repeat refine evF ?_
  refine clF rfl ⟨rfl, _, rfl⟩ (by omega) (by first | exact may37) (viStep_d ⟨false, f.t1, f.o2, f.t2, false, f.t3, false, f.t4⟩ true 3 N (vcls N x) hf hin hl (.inr (vcls_len N x))) ?_
  rintro _ rfl
  repeat refine evF ?_
  refine aops_end (hK _ (dw_keep [1, 2, 5] (by simp only [bunK, C.at, C.put, List.dropLast, List.isPrefixOf, Nat.reduceMul, Nat.reduceLT, Nat.reduceLeDiff, Nat.reduceBEq, Nat.reduceEqDiff, reduceCtorEq, Nat.reduceAdd, ↓reduceIte , vcls_succ hp]; exact rfl) ?_))
  clear hK K
  refine dwR fun K hK => ?_
  repeat refine evF ?_
  have dfk := And.intro @castS @Int.sub_sub
  refine aops_end (hK _ ?_)
  clear hK K
  show ∃ x, _ ∧ _ ∧ Weak _ _
  refine ⟨x + 1, ?_, ?_, weakFk [1, 2, 5]⟩
  ·omega
  ·omega
 ·have hx2 : x = t := by simp at hb; omega
  refine dw_leave3 ?_  -- exit 0
  refine dw_keep [5] (by simp only [bunK, C.at, C.put, List.dropLast, List.isPrefixOf, Nat.reduceMul, Nat.reduceLT, Nat.reduceLeDiff, Nat.reduceBEq, Nat.reduceEqDiff, reduceCtorEq, Nat.reduceAdd, ↓reduceIte]; exact rfl) ?_
  refine dw_seq (dwR fun K hK => ?_)
  repeat refine evF ?_
  refine aops_end (hK _ (dwK [4] ?_))
  clear hK K
  exact dw_ret (fin_ret Try.results18 (.one (.own _ _ _ _ rfl rfl (own1 (owned_ints _ _)))) (by decide) (by rw [hx2]))
end
section
open Go Go.RowKit
theorem mst_max (a b : Nat) : mst (a : Int) (b : Int) = ((max a b : Nat) : Int) := by unfold mst; split <;> omega
theorem many_nm (k : Nat → List Int) : ∀ m, manyOf ((List.range m).map fun v => (nm k v : Int)) = (cnB k m : Int)
 | 0 => rfl
 | m + 1 => by
  have ih := many_nm k m
  unfold manyOf at ih ⊢
  rw [List.range_succ, List.map_append, List.foldl_append, ih]
  show mst (cnB k m : Int) ((nm k m : Int) + 1) = _
  rw [show (nm k m : Int) + 1 = ((nm k m + 1 : Nat) : Int) by omega, mst_max, cn_max]
theorem many_cls (N : Net) (t : Nat) : manyOf (vcls N t) = (vmany N t : Int) := by rw [vcls_eq]; exact many_nm _ _
theorem cls_in {N : Net} (hl : N.ends.length ≤ 100000) (t : Nat) : ∀ x ∈ vcls N t, 0 ≤ x ∧ x < 1000000 := fun x hx => by
 obtain ⟨i, hi, rfl⟩ := List.getElem_of_mem hx
 have hi' : i < N.ends.length := by rw [← vcls_len N t]; exact hi
 have := vcls_range (t := t) hi'
 rw [gi_lt hi] at this
 have h2 := vmany_le N t
 omega
theorem dfxVw4 : type_of% (And.intro tab27 @trivial) := And.intro tab27 @trivial
set_option maxRecDepth 8000 in
set_option maxHeartbeats 0 in
theorem viStable_d (f : NF) (N : Net) (d : Nat) (hf : Fine N) (hin : N.inputs.length = N.ends.length) (hl : N.ends.length ≤ 100000) (hp : 0 < N.ends.length) (hd : IsSd N d) : DCalls Try.prog 17 [.agg (netC f N)] (fun r => r = [.c (.p (.int .i64 d))]) := by -- params impl.Network
 have hdl := hd.lt (hf.rng hp)
 refine dcalls_of Try.func17 rfl (by rw [Try.ntmps17]; simp) fun w0 => ?_
 rw [Try.ntmps17]
 have dfx := dfxVw4
 simp only [initE, argsL, Arg.av, netC, endss, ints, ends]
 refine dw_seq (dwR fun K hK => ?_)
 repeat refine evF ?_
 refine aops_end (hK _ (dwK [1] ?_))
 clear hK K
 refine dw_seq (dwR fun K hK => ?_)
 repeat refine evF ?_
 refine clF rfl ⟨rfl, _, rfl⟩ (by omega) (by first | exact may18) (viClasses_d ⟨false, f.t1, f.o2, f.t2, false, f.t3, false, f.t4⟩ N 0 hf hin hl hp (by omega)) ?_
 rintro _ rfl
 repeat refine evF ?_
 refine aops_end (hK _ (dwK [1, 3] ?_))
 clear hK K
 refine dw_seq (dwR fun K hK => ?_)
 repeat refine evF ?_
 refine aops_end (hK _ (dwK [1, 3, 4] ?_))
 clear hK K
 refine dw_block ?_
 refine dw_loopP (X := Nat) (fun t => t ≤ d) (fun t => [(4, .c (.p (.int .i64 t)))]) (fun t => [((3, 0), ⟨none, [.sl true 3 1 ((vcls N t).map iC)]⟩)]) (fun t => d - t) 0 (Nat.zero_le _) (by first | rfl | (simp only [bunK, C.at, C.put, List.dropLast, List.isPrefixOf, Nat.reduceMul, Nat.reduceLT, Nat.reduceLeDiff, Nat.reduceBEq, Nat.reduceEqDiff, reduceCtorEq, Nat.reduceAdd, ↓reduceIte, Int.natCast_zero] <;> rfl)) ?_
 rintro t ht
 intro E hE
 simp only [bunK, C.at, C.put, List.dropLast, List.isPrefixOf, Nat.reduceMul, Nat.reduceLT, Nat.reduceLeDiff, Nat.reduceBEq, Nat.reduceEqDiff, reduceCtorEq, Nat.reduceAdd, ↓reduceIte] at hE
 subst hE
 refine dw_seq (dw_block ?_)
 refine dw_seq (dwR fun K hK => ?_)
 repeat refine evF ?_
 refine clF rfl ⟨rfl, _, rfl⟩ (by omega) (by first | exact may37) (viStep_d ⟨false, f.t1, f.o2, f.t2, false, f.t3, false, f.t4⟩ true 3 N (vcls N t) hf hin hl (.inr (vcls_len N t))) ?_
 rintro _ rfl
 repeat refine evF ?_
 refine aops_end (hK _ (dw_keep [1, 3, 4, 5] (by simp only [bunK, C.at, C.put, List.dropLast, List.isPrefixOf, Nat.reduceMul, Nat.reduceLT, Nat.reduceLeDiff, Nat.reduceBEq, Nat.reduceEqDiff, reduceCtorEq, Nat.reduceAdd, ↓reduceIte , vcls_succ hp]; exact rfl) ?_))
 clear hK K
 refine dw_seq ?_
 refine dw_seq (dwR fun K hK => ?_)
 repeat refine evF ?_
 refine clF rfl ⟨rfl, _, rfl⟩ (by omega) (by first | exact may38) (viMany_d true 3 (vcls N (t + 1)) (cls_in hl _) (by rw [vcls_len]; omega)) ?_
 rintro _ rfl
 repeat refine evF ?_
 refine clF rfl ⟨rfl, _, rfl⟩ (by omega) (by first | exact may38) (viMany_d true 3 (vcls N t) (cls_in hl _) (by rw [vcls_len]; omega)) ?_
 rintro _ rfl
 repeat refine evF ?_
 have dfk := @many_cls
 refine aops_end (hK _ (dwKF [1, 4, 5, 17] ?_))
 clear hK K
 refine dwI (fun hb => ?_) (fun hb => ?_)
 ·have he : vmany N (t + 1) = vmany N t := by simp at hb; omega
  have htd : t = d := by
   rcases Nat.lt_or_ge t d with h | h
   ·exact absurd he (hd.2 t h)
   ·omega
  refine dw_seq (dwR fun K hK => ?_)
  repeat refine evF ?_
  refine aops_end (hK _ (dwK [2] ?_))
  clear hK K
  exact dw_ret (fin_ret Try.results17 (.one (.plain _ _ rfl)) (by decide) (by rw [htd]))
 ·have htd : t < d := by
   rcases Nat.lt_or_ge t d with h | h
   ·exact h
   ·have : t = d := by omega
    subst this
    have := hd.1
    simp [this] at hb
  refine dw_skip ?_
  show DW _ _ _ _ _
  refine dwR fun K hK => ?_
  repeat refine evF ?_
  refine aops_end (hK _ (dwK [1, 3, 4] ?_))
  clear hK K
  refine dwR fun K hK => ?_
  repeat refine evF ?_
  have dfk := @castS
  refine aops_end (hK _ ?_)
  clear hK K
  show ∃ x, _ ∧ _ ∧ Weak _ _
  refine ⟨t + 1, ?_, ?_, weakFk [1, 3, 4]⟩
  ·omega
  ·omega
end
end Go.Proofs.Ytlaahgdikiiahaa
