/- Parts of the proof, joined: Dix, Dwd. -/
import Derived.Test.YtdiiggpohcjppaaGreatCDbf
import Derived.Test.YtdiiggpohcjppaaGreatCJn10
import Derived.Test.YtdiiggpohcjppaaGreatCJn42
set_option linter.unusedSimpArgs false
set_option linter.unusedVariables false
namespace Go.Proofs.YtdiiggpohcjppaaGreat
section
open Go Go.RowKit
def idxI (xs : List Int) (x : Int) : Int := fstI xs.length fun j => gi xs j == x
theorem dfxDix : type_of% (And.intro tab27 (And.intro tab25 (And.intro tab3 (And.intro tab24 (And.intro tab82 (And.intro @if_pos.{1} (And.intro @rowi (And.intro tab35 (And.intro @getDe (And.intro @getDp (And.intro @getDi (And.intro @toNat0 (And.intro @toNat1 @trivial))))))))))))) := And.intro tab27 (And.intro tab25 (And.intro tab3 (And.intro tab24 (And.intro tab82 (And.intro @if_pos.{1} (And.intro @rowi (And.intro tab35 (And.intro @getDe (And.intro @getDp (And.intro @getDi (And.intro @toNat0 (And.intro @toNat1 @trivial))))))))))))
set_option maxRecDepth 8000 in
set_option maxHeartbeats 0 in
theorem Index_d (o : Bool) (t : TypeId) (xs : List Int) (x : Int) (hl : xs.length ≤ 1000000) : DCalls Tryz.prog 78 [.c (.sl o t 1 (xs.map iC)), .c (.p (.int .i64 x))] (fun r => r = [.c (.p (.int .i64 (idxI xs x)))]) := by -- params []int, int
 refine dcalls_of Tryz.func78 rfl (by rw [Tryz.ntmps78]; simp) fun w0 => ?_
 rw [Tryz.ntmps78]
 have dfx := dfxDix
 simp only [initE, argsL, Arg.av, netC, endss, ints, ends]
 refine dw_seq (dwR fun K hK => ?_)
 repeat refine evF ?_
 refine aops_end (hK _ (dwK [0, 1] ?_))
 clear hK K
 refine dw_seq ?_
 refine dw_seq (dwR fun K hK => ?_)
 repeat refine evF ?_
 refine aops_end (hK _ (dwK [0, 1, 7, 8] ?_))
 clear hK K
 refine dw_block ?_
 refine dw_loopP (X := Nat) (fun k => k ≤ xs.length ∧ ∀ j, j < k → (gi xs j == x) = false) (fun k => [(8, .c (.p (.int .i64 k)))]) (fun k => []) (fun k => xs.length - k) 0 ⟨Nat.zero_le _, fun j hj => by simp at hj⟩ (by first | rfl | (simp only [bunK, C.at, C.put, List.dropLast, List.isPrefixOf, Nat.reduceMul, Nat.reduceLT, Nat.reduceLeDiff, Nat.reduceBEq, Nat.reduceEqDiff, reduceCtorEq, Nat.reduceAdd, ↓reduceIte, Int.natCast_zero] <;> rfl)) ?_
 rintro k ⟨hk, hne⟩
 intro E hE
 simp only [bunK, C.at, C.put, List.dropLast, List.isPrefixOf, Nat.reduceMul, Nat.reduceLT, Nat.reduceLeDiff, Nat.reduceBEq, Nat.reduceEqDiff, reduceCtorEq, Nat.reduceAdd, ↓reduceIte] at hE
 subst hE
 refine dw_seq (dwR fun K hK => ?_)
 repeat refine evF ?_
 refine aops_end (hK _ (dwK [0, 1, 7, 8, 9] ?_))
 clear hK K
 refine dw_seq (dwI (fun hb => ?_) (fun hb => ?_))
 ·have hkl : k < xs.length := by simpa using hb
  refine dw_skip ?_
  show DW _ _ _ _ _
  refine dw_seq (dw_block ?_)
  refine dw_seq (dwR fun K hK => ?_)
  repeat refine evF ?_
  refine aops_end (hK _ (dwK [0, 1, 5, 7, 8] ?_))
  clear hK K
  refine dw_seq (dwR fun K hK => ?_)
  repeat refine evF ?_
  refine aops_end (hK _ (dwK [0, 1, 5, 7, 8, 16] ?_))
  clear hK K
  refine dwI (fun hb => ?_) (fun hb => ?_)
  ·have he : gi xs k = x := Eq.symm (by simpa using hb)
   have hi : idxI xs x = k := fstI_some hkl (by simpa using he) hne
   refine dw_seq (dwR fun K hK => ?_)
   repeat refine evF ?_
   refine aops_end (hK _ (dwK [4] ?_))
   clear hK K
   exact dw_ret (fin_ret Tryz.results78 (.one (.plain _ _ rfl)) (by decide) (by rw [hi]))
  ·have he : (gi xs k == x) = false := by
    have : x ≠ gi xs k := by simpa using hb
    simpa using fun h => this h.symm
   refine dw_skip ?_
   show DW _ _ _ _ _
   refine dwR fun K hK => ?_
   repeat refine evF ?_
   have dfk := @castS
   refine aops_end (hK _ ?_)
   clear hK K
   show ∃ x, _ ∧ _ ∧ Weak _ _
   refine ⟨k + 1, ?_, ?_, weakFk [0, 1, 7, 8]⟩
   ·refine ⟨hkl, fun j hj => ?_⟩
    rcases Nat.lt_or_ge j k with h | h
    ·exact hne j h
    ·obtain rfl : j = k := by omega
     exact he
   ·omega
 ·have hkl : k = xs.length := by
   have : ¬ (k : Int) < (xs.length : Int) := by simpa using hb
   omega
  subst hkl
  have hi : idxI xs x = -1 := fstI_none hne
  refine dw_leave3 ?_
  refine dwK [] ?_
  refine dw_seq (dwR fun K hK => ?_)
  repeat refine evF ?_
  refine aops_end (hK _ (dwK [4] ?_))
  clear hK K
  exact dw_ret (fin_ret Tryz.results78 (.one (.plain _ _ rfl)) (by decide) (by rw [hi]))
set_option maxRecDepth 8000 in
set_option maxHeartbeats 0 in
theorem Contains_d (o : Bool) (t : TypeId) (xs : List Int) (x : Int) (hl : xs.length ≤ 1000000) : DCalls Tryz.prog 121 [.c (.sl o t 1 (xs.map iC)), .c (.p (.int .i64 x))] (fun r => r = [.c (.p (.bool (decide (0 ≤ idxI xs x))))]) := by -- params []int, int
 refine dcalls_of Tryz.func121 rfl (by rw [Tryz.ntmps121]; simp) fun w0 => ?_
 rw [Tryz.ntmps121]
 have dfx := dfxDix
 simp only [initE, argsL, Arg.av, netC, endss, ints, ends]
 refine dw_seq (dwR fun K hK => ?_)
 repeat refine evF ?_
 refine aops_end (hK _ (dwK [0, 1] ?_))
 clear hK K
 refine dw_seq (dwR fun K hK => ?_)
 repeat (apply aops_ev; (focus exact rfl); (focus (simp (disch := first | omega | (intros; contradiction)) only [bunK, bunX, C.at, C.put, List.dropLast, List.isPrefixOf, Nat.reduceMul, Nat.reduceLT, Nat.reduceLeDiff, Nat.reduceBEq, Nat.reduceEqDiff, reduceCtorEq, Nat.reduceAdd, ↓reduceIte, tab27, tab25, tab3, tab24, tab82, if_pos, rowi, tab35, getDe, getDp, getDi, toNat0, toNat1 , may78]; exact rfl)))
 refine aops_call rfl ⟨rfl, _, rfl⟩ (by omega) (by first | exact may78) (by simp (disch := first | omega | (intros; contradiction)) only [bunK, bunX, C.at, C.put, List.dropLast, List.isPrefixOf, Nat.reduceMul, Nat.reduceLT, Nat.reduceLeDiff, Nat.reduceBEq, Nat.reduceEqDiff, reduceCtorEq, Nat.reduceAdd, ↓reduceIte, tab27, tab25, tab3, tab24, tab82, if_pos, rowi, tab35, getDe, getDp, getDi, toNat0, toNat1 , may78] <;> exact rfl) (Index_d o t xs x hl) ?_
 rintro _ rfl
 repeat (apply aops_ev; (focus exact rfl); (focus (simp (disch := first | omega | (intros; contradiction)) only [bunK, bunX, C.at, C.put, List.dropLast, List.isPrefixOf, Nat.reduceMul, Nat.reduceLT, Nat.reduceLeDiff, Nat.reduceBEq, Nat.reduceEqDiff, reduceCtorEq, Nat.reduceAdd, ↓reduceIte, tab27, tab25, tab3, tab24, tab82, if_pos, rowi, tab35, getDe, getDp, getDi, toNat0, toNat1 , may78]; exact rfl)))
 refine aops_end (hK _ (dwK [4] ?_))
 clear hK K
 exact dw_ret (fin_ret Tryz.results121 (.one (.plain _ _ rfl)) (by decide) rfl)
theorem reach_all {N : Net} (hs : Sym N.ends) {a b : Nat} (ha : a < N.ends.length) (hb : b < N.ends.length) (h : ∀ w, w < N.ends.length → 0 ≤ gi (dists N a) w) : ∀ w, w < N.ends.length → 0 ≤ gi (dists N b) w := by
 have hx := dists_is hs ha
 have hy := dists_is hs hb
 have h1 : ∀ (k : Nat) w, w < N.ends.length → gi (dists N a) w = k → 0 ≤ gi (dists N b) w → 0 ≤ gi (dists N b) a := fun k => by
  induction k with
  | zero => intro w hw hk h2; rw [← hx.zero w hw (by simpa using hk)]; exact h2
  | succ k ih =>
   intro w hw hk h2
   obtain ⟨j, hj, h3⟩ := hx.back w hw (by omega)
   exact ih _ (sym_nd hs hw hj).1 (by omega) (hy.step w hw h2 j hj).1
 obtain ⟨k, hk⟩ := Int.eq_ofNat_of_zero_le (h b hb)
 have h0 := h1 k b hb hk (by rw [hy.root]; exact Int.le_refl 0)
 have h2 : ∀ (k : Nat) w, w < N.ends.length → gi (dists N a) w = k → 0 ≤ gi (dists N b) w := fun k => by
  induction k with
  | zero => intro w hw hk; rw [hx.zero w hw (by simpa using hk)]; exact h0
  | succ k ih =>
   intro w hw hk
   obtain ⟨j, hj, h3⟩ := hx.back w hw (by omega)
   obtain ⟨h4, h5, h6, -⟩ := sym_nd hs hw hj
   have := (hy.step _ h4 (ih _ h4 (by omega)) _ h5).1
   rwa [h6] at this
 intro w hw
 obtain ⟨k, hk⟩ := Int.eq_ofNat_of_zero_le (h w hw)
 exact h2 k w hw hk
theorem conn_any {N : Net} (hs : Sym N.ends) {a b : Nat} (ha : a < N.ends.length) (hb : b < N.ends.length) : connB N a = connB N b := by
 rw [Bool.eq_iff_iff, connB_iff hs ha, connB_iff hs hb]
 exact ⟨reach_all hs ha hb, reach_all hs hb ha⟩
theorem conn_idx {N : Net} (hs : Sym N.ends) {a : Nat} (ha : a < N.ends.length) : (!decide (0 ≤ idxI (dists N a) (-1))) = connB N a := by
 have hd := dists_is hs ha
 rcases fstI_cases (dists N a).length (fun j => gi (dists N a) j == -1) with ⟨h1, h2⟩ | ⟨m, h1, h2, h3, -⟩
 ·have e : decide (0 ≤ idxI (dists N a) (-1)) = false := by unfold idxI; rw [h1]; rfl
  rw [e]
  refine ((connB_iff hs ha).2 fun w hw => ?_).symm
  have h3 := h2 w (by rw [hd.len]; exact hw)
  have h4 := hd.low w hw
  have : gi (dists N a) w ≠ -1 := by simpa using h3
  omega
 ·have e : decide (0 ≤ idxI (dists N a) (-1)) = true := by unfold idxI; rw [h1]; simp
  rw [e]
  refine (Bool.eq_false_iff.2 fun hc => ?_).symm
  rw [hd.len] at h2
  have := (connB_iff hs ha).1 hc m h2
  have h4 : gi (dists N a) m = -1 := by simpa using h3
  omega
set_option maxRecDepth 8000 in
set_option maxHeartbeats 0 in
theorem isConnected_d (f : NF) (N : Net) (hg : goodB N = true) {a : Nat} (ha : a < N.ends.length) : DCalls Tryz.prog 69 [.agg (netC f N)] (fun r => r = [.c (.p (.bool (connB N a)))]) := by -- params impl.Network
 have hs : Sym N.ends := (goodB_fine hg).sym
 have hn := good_len hg
 have hdg : ∀ a, (gl N.ends a).length ≤ 1000 := fun a => by
  rcases Nat.lt_or_ge a N.ends.length with h | h
  ·have := good_deg hg h; omega
  ·have : gl N.ends a = [] := by unfold gl; rw [List.getD_eq_getElem?_getD, List.getElem?_eq_none h]; rfl
   rw [this]; simp
 have hdl := (dists_is hs (show 0 < N.ends.length by omega)).len
 have hc0 := conn_idx hs (show 0 < N.ends.length by omega)
 have hca := conn_any hs (show 0 < N.ends.length by omega) ha
 refine dcalls_of Tryz.func69 rfl (by rw [Tryz.ntmps69]; simp) fun w0 => ?_
 rw [Tryz.ntmps69]
 have dfx := dfxDix
 simp only [initE, argsL, Arg.av, netC, endss, ints, ends]
 refine dw_seq (dwR fun K hK => ?_)
 repeat refine evF ?_
 refine aops_end (hK _ (dwK [1] ?_))
 clear hK K
 refine dw_seq (dwR fun K hK => ?_)
 repeat (apply aops_ev; (focus exact rfl); (focus (simp (disch := first | omega | (intros; contradiction)) only [bunK, bunX, C.at, C.put, List.dropLast, List.isPrefixOf, Nat.reduceMul, Nat.reduceLT, Nat.reduceLeDiff, Nat.reduceBEq, Nat.reduceEqDiff, reduceCtorEq, Nat.reduceAdd, ↓reduceIte, tab27, tab25, tab3, tab24, tab82, if_pos, rowi, tab35, getDe, getDp, getDi, toNat0, toNat1 , may57, may121]; exact rfl)))
 refine aops_call rfl ⟨rfl, _, rfl⟩ (by omega) (by first | exact may57 | exact may121) (by simp (disch := first | omega | (intros; contradiction)) only [bunK, bunX, C.at, C.put, List.dropLast, List.isPrefixOf, Nat.reduceMul, Nat.reduceLT, Nat.reduceLeDiff, Nat.reduceBEq, Nat.reduceEqDiff, reduceCtorEq, Nat.reduceAdd, ↓reduceIte, tab27, tab25, tab3, tab24, tab82, if_pos, rowi, tab35, getDe, getDp, getDi, toNat0, toNat1 , may57, may121] <;> exact rfl) (distancesFrom_d ⟨false, f.t1, f.o2, f.t2, false, f.t3, false, f.t4⟩ N 0 hs (by omega) (by omega) hdg) ?_
 rintro _ rfl
 repeat (apply aops_ev; (focus exact rfl); (focus (simp (disch := first | omega | (intros; contradiction)) only [bunK, bunX, C.at, C.put, List.dropLast, List.isPrefixOf, Nat.reduceMul, Nat.reduceLT, Nat.reduceLeDiff, Nat.reduceBEq, Nat.reduceEqDiff, reduceCtorEq, Nat.reduceAdd, ↓reduceIte, tab27, tab25, tab3, tab24, tab82, if_pos, rowi, tab35, getDe, getDp, getDi, toNat0, toNat1 , may57, may121]; exact rfl)))
 refine aops_call rfl ⟨rfl, _, rfl⟩ (by omega) (by first | exact may57 | exact may121) (by simp (disch := first | omega | (intros; contradiction)) only [bunK, bunX, C.at, C.put, List.dropLast, List.isPrefixOf, Nat.reduceMul, Nat.reduceLT, Nat.reduceLeDiff, Nat.reduceBEq, Nat.reduceEqDiff, reduceCtorEq, Nat.reduceAdd, ↓reduceIte, tab27, tab25, tab3, tab24, tab82, if_pos, rowi, tab35, getDe, getDp, getDi, toNat0, toNat1 , may57, may121] <;> exact rfl) (Contains_d true 3 (dists N 0) (-1) (by omega)) ?_
 rintro _ rfl
 repeat (apply aops_ev; (focus exact rfl); (focus (simp (disch := first | omega | (intros; contradiction)) only [bunK, bunX, C.at, C.put, List.dropLast, List.isPrefixOf, Nat.reduceMul, Nat.reduceLT, Nat.reduceLeDiff, Nat.reduceBEq, Nat.reduceEqDiff, reduceCtorEq, Nat.reduceAdd, ↓reduceIte, tab27, tab25, tab3, tab24, tab82, if_pos, rowi, tab35, getDe, getDp, getDi, toNat0, toNat1 , may57, may121]; exact rfl)))
 have dfk := And.intro @hc0 @hca
 refine aops_end (hK _ (dwKF [2] ?_))
 clear hK K
 exact dw_ret (fin_ret Tryz.results69 (.one (.plain _ _ rfl)) (by decide) rfl)
end
section
open Go Go.RowKit
theorem nodeB_at {N : Net} {x : Int} (h : nodeB N x = true) : ∃ v : Nat, x = v ∧ v < N.ends.length ∧ goodB N = true := by
 unfold nodeB at h
 simp only [Bool.and_eq_true] at h
 have := inB_iff.1 h.2
 exact ⟨x.toNat, by omega, by omega, h.1⟩
theorem nodeB_of {N : Net} {v : Nat} (hg : goodB N = true) (hv : v < N.ends.length) : nodeB N v = true := by
 unfold nodeB
 rw [hg, inB_iff.2 (by omega)]; rfl
theorem dfxDwd : type_of% (And.intro tab27 (And.intro tab25 (And.intro tab3 (And.intro tab24 (And.intro tab82 (And.intro @if_pos.{1} (And.intro @rowi (And.intro tab35 (And.intro @getDe (And.intro @getDp (And.intro @getDi (And.intro @toNat0 (And.intro @toNat1 @trivial))))))))))))) := And.intro tab27 (And.intro tab25 (And.intro tab3 (And.intro tab24 (And.intro tab82 (And.intro @if_pos.{1} (And.intro @rowi (And.intro tab35 (And.intro @getDe (And.intro @getDp (And.intro @getDi (And.intro @toNat0 (And.intro @toNat1 @trivial))))))))))))
set_option maxRecDepth 8000 in
set_option maxHeartbeats 0 in
theorem DistancesFrom_d (f : NF) (N : Net) (v : Nat) (hg : goodB N = true) (hv : v < N.ends.length) : DCalls Tryz.prog 10 [.agg (netC f N), .c (.p (.int .i64 v))] (fun r => r = [.own false [.sl true 3 1 ((dists N v).map iC)], .c (.p (.bool true))]) := by -- params impl.Network, int
 have hs : Sym N.ends := (goodB_fine hg).sym
 have hn := good_len hg
 have hids : N.ids.length ≤ 2097152 := by have := good_ids hg; omega
 have hin : inB (v : Int) 0 ((N.ends.length : Int) - 1) = true := inB_iff.2 (by omega)
 have hdg : ∀ a, (gl N.ends a).length ≤ 1000 := fun a => by
  rcases Nat.lt_or_ge a N.ends.length with h | h
  ·have := good_deg hg h; omega
  ·have : gl N.ends a = [] := by unfold gl; rw [List.getD_eq_getElem?_getD, List.getElem?_eq_none h]; rfl
   rw [this]; simp
 refine dcalls_of Tryz.func10 rfl (by rw [Tryz.ntmps10]; simp) fun w0 => ?_
 rw [Tryz.ntmps10]
 have dfx := dfxDwd
 simp only [initE, argsL, Arg.av, netC, endss, ints, ends]
 refine dw_seq (dwR fun K hK => ?_)
 repeat refine evF ?_
 refine aops_end (hK _ (dwK [1, 2] ?_))
 clear hK K
 refine dw_seq ?_
 refine dw_seq (dwR fun K hK => ?_)
 repeat refine evF ?_
 refine clF rfl ⟨rfl, _, rfl⟩ (by omega) (by first | exact may55 | exact may56) (IsNetwork_d ⟨false, f.t1, f.o2, f.t2, false, f.t3, false, f.t4⟩ N hids) ?_
 rintro _ rfl
 repeat refine evF ?_
 have dfx := And.intro dfx (@hg)
 repeat refine evF ?_
 refine cgF rfl rfl ⟨rfl, _, rfl⟩ (by omega) (by first | exact may55 | exact may56) (hasNode_d ⟨false, f.t1, f.o2, f.t2, false, f.t3, false, f.t4⟩ N v (by omega)) ?_
 rintro _ rfl
 repeat refine evF ?_
 have dfx := And.intro dfx (@hin)
 repeat refine evF ?_
 have dfk := And.intro @hin @hg
 refine aops_end (hK _ (dwKF [1, 2, 14] ?_))
 clear hK K
 refine dwI (fun hb => ?_) (fun hb => ?_)
 ·cases hb
 ·refine dw_skip ?_
  show DW _ _ _ _ _
  refine dw_seq (dwR fun K hK => ?_)
  repeat refine evF ?_
  refine clF rfl ⟨rfl, _, rfl⟩ (by omega) (by first | exact may57) (distancesFrom_d ⟨false, f.t1, f.o2, f.t2, false, f.t3, false, f.t4⟩ N v hs hv (by omega) hdg) ?_
  rintro _ rfl
  repeat refine evF ?_
  refine aops_end (hK _ (dwK [4, 5] ?_))
  clear hK K
  exact dw_ret (fin_ret Tryz.results10 (.two (.own _ _ _ _ rfl rfl (own1 (owned_ints _ _))) (.plain _ _ rfl)) (by decide) rfl)
end
end Go.Proofs.YtdiiggpohcjppaaGreat
