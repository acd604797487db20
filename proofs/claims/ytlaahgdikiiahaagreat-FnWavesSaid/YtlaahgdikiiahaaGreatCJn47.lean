/- Parts of the proof, joined: Dwx, Dwy, Dwz, Wsx. -/
import Derived.Test.YtlaahgdikiiahaaGreatCJn46
import Derived.Test.YtlaahgdikiiahaaGreatCDct
import Derived.Test.YtlaahgdikiiahaaGreatCIm7
import Derived.Test.YtlaahgdikiiahaaGreatCIm5
import Derived.Test.YtlaahgdikiiahaaGreatCDsm
set_option linter.unusedSimpArgs false
set_option linter.unusedVariables false
namespace Go.Proofs.YtlaahgdikiiahaaGreat
section
open Go Go.RowKit
def idxI (xs : List Int) (x : Int) : Int := fstI xs.length fun j => gi xs j == x
theorem dfxDwx : type_of% (And.intro tab27 (And.intro tab25 (And.intro tab3 (And.intro tab24 (And.intro tab67 (And.intro @if_pos.{1} (And.intro @rowi (And.intro tab69 (And.intro @getDe (And.intro @getDp (And.intro @getDi (And.intro @toNat0 (And.intro @toNat1 @trivial))))))))))))) := And.intro tab27 (And.intro tab25 (And.intro tab3 (And.intro tab24 (And.intro tab67 (And.intro @if_pos.{1} (And.intro @rowi (And.intro tab69 (And.intro @getDe (And.intro @getDp (And.intro @getDi (And.intro @toNat0 (And.intro @toNat1 @trivial))))))))))))
set_option maxRecDepth 8000 in
set_option maxHeartbeats 0 in
theorem Index_d (o : Bool) (t : TypeId) (xs : List Int) (x : Int) (hl : xs.length ≤ 1000000) : DCalls Tryz.prog 84 [.c (.sl o t 1 (xs.map iC)), .c (.p (.int .i64 x))] (fun r => r = [.c (.p (.int .i64 (idxI xs x)))]) := by -- params []int, int
 refine dcalls_of Tryz.func84 rfl (by rw [Tryz.ntmps84]; simp) fun w0 => ?_
 rw [Tryz.ntmps84]
 have dfx := dfxDwx
 simp only [initE, argsL, Arg.av, netC, endss, ints, ends]
 refine dw_seq (dwR fun K hK => ?_)
 repeat refine evF ?_
 refine aops_end (hK _ (dwK [0, 1] ?_))
 clear hK K
 refine dw_seq ?_
 refine dw_seq (dwR fun K hK => ?_)
 repeat refine evF ?_
 refine aops_end (hK _ (dwK [0, 1, 7, 8] ?_))
 clear hK K
 refine dw_block ?_
 refine dw_loopP (X := Nat) (fun k => k ≤ xs.length ∧ ∀ j, j < k → (gi xs j == x) = false) (fun k => [(8, .c (.p (.int .i64 k)))]) (fun k => []) (fun k => xs.length - k) 0 ⟨Nat.zero_le _, fun j hj => by simp at hj⟩ (by first | rfl | (simp only [bunK, C.at, C.put, List.dropLast, List.isPrefixOf, Nat.reduceMul, Nat.reduceLT, Nat.reduceLeDiff, Nat.reduceBEq, Nat.reduceEqDiff, reduceCtorEq, Nat.reduceAdd, ↓reduceIte, Int.natCast_zero] <;> rfl)) ?_
 rintro k ⟨hk, hne⟩
 intro E hE
 simp only [bunK, C.at, C.put, List.dropLast, List.isPrefixOf, Nat.reduceMul, Nat.reduceLT, Nat.reduceLeDiff, Nat.reduceBEq, Nat.reduceEqDiff, reduceCtorEq, Nat.reduceAdd, ↓reduceIte] at hE
 subst hE
 refine dw_seq (dwR fun K hK => ?_)
 repeat refine evF ?_
 refine aops_end (hK _ (dwK [0, 1, 7, 8, 9] ?_))
 clear hK K
 refine dw_seq (dwI (fun hb => ?_) (fun hb => ?_))
 ·have hkl : k < xs.length := by simpa using hb
  refine dw_skip ?_
  show DW _ _ _ _ _
  refine dw_seq (dw_block ?_)
  refine dw_seq (dwR fun K hK => ?_)
  repeat refine evF ?_
  refine aops_end (hK _ (dwK [0, 1, 5, 7, 8] ?_))
  clear hK K
  refine dw_seq (dwR fun K hK => ?_)
  repeat refine evF ?_
  refine aops_end (hK _ (dwK [0, 1, 5, 7, 8, 16] ?_))
  clear hK K
  refine dwI (fun hb => ?_) (fun hb => ?_)
  ·have he : gi xs k = x := Eq.symm (by simpa using hb)
   have hi : idxI xs x = k := fstI_some hkl (by simpa using he) hne
   refine dw_seq (dwR fun K hK => ?_)
   repeat refine evF ?_
   refine aops_end (hK _ (dwK [4] ?_))
   clear hK K
   exact dw_ret (fin_ret Tryz.results84 (.one (.plain _ _ rfl)) (by decide) (by rw [hi]))
  ·have he : (gi xs k == x) = false := by
    have : x ≠ gi xs k := by simpa using hb
    simpa using fun h => this h.symm
   refine dw_skip ?_
   show DW _ _ _ _ _
   refine dwR fun K hK => ?_
   repeat refine evF ?_
   have dfk := @castS
   refine aops_end (hK _ ?_)
   clear hK K
   show ∃ x, _ ∧ _ ∧ Weak _ _
   refine ⟨k + 1, ?_, ?_, weakFk [0, 1, 7, 8]⟩
   ·refine ⟨hkl, fun j hj => ?_⟩
    rcases Nat.lt_or_ge j k with h | h
    ·exact hne j h
    ·obtain rfl : j = k := by omega
     exact he
   ·omega
 ·have hkl : k = xs.length := by
   have : ¬ (k : Int) < (xs.length : Int) := by simpa using hb
   omega
  subst hkl
  have hi : idxI xs x = -1 := fstI_none hne
  refine dw_leave3 ?_
  refine dwK [] ?_
  refine dw_seq (dwR fun K hK => ?_)
  repeat refine evF ?_
  refine aops_end (hK _ (dwK [4] ?_))
  clear hK K
  exact dw_ret (fin_ret Tryz.results84 (.one (.plain _ _ rfl)) (by decide) (by rw [hi]))
set_option maxRecDepth 8000 in
set_option maxHeartbeats 0 in
theorem Contains_d (o : Bool) (t : TypeId) (xs : List Int) (x : Int) (hl : xs.length ≤ 1000000) : DCalls Tryz.prog 83 [.c (.sl o t 1 (xs.map iC)), .c (.p (.int .i64 x))] (fun r => r = [.c (.p (.bool (decide (0 ≤ idxI xs x))))]) := by -- params []int, int
 refine dcalls_of Tryz.func83 rfl (by rw [Tryz.ntmps83]; simp) fun w0 => ?_
 rw [Tryz.ntmps83]
 have dfx := dfxDwx
 simp only [initE, argsL, Arg.av, netC, endss, ints, ends]
 refine dw_seq (dwR fun K hK => ?_)
 repeat refine evF ?_
 refine aops_end (hK _ (dwK [0, 1] ?_))
 clear hK K
 refine dw_seq (dwR fun K hK => ?_)
 repeat (apply aops_ev; (focus exact rfl); (focus (simp (disch := first | omega | (intros; contradiction)) only [bunK, bunX, C.at, C.put, List.dropLast, List.isPrefixOf, Nat.reduceMul, Nat.reduceLT, Nat.reduceLeDiff, Nat.reduceBEq, Nat.reduceEqDiff, reduceCtorEq, Nat.reduceAdd, ↓reduceIte, tab27, tab25, tab3, tab24, tab67, if_pos, rowi, tab69, getDe, getDp, getDi, toNat0, toNat1 , may84]; exact rfl)))
 refine aops_call rfl ⟨rfl, _, rfl⟩ (by omega) (by first | exact may84) (by simp (disch := first | omega | (intros; contradiction)) only [bunK, bunX, C.at, C.put, List.dropLast, List.isPrefixOf, Nat.reduceMul, Nat.reduceLT, Nat.reduceLeDiff, Nat.reduceBEq, Nat.reduceEqDiff, reduceCtorEq, Nat.reduceAdd, ↓reduceIte, tab27, tab25, tab3, tab24, tab67, if_pos, rowi, tab69, getDe, getDp, getDi, toNat0, toNat1 , may84] <;> exact rfl) (Index_d o t xs x hl) ?_
 rintro _ rfl
 repeat (apply aops_ev; (focus exact rfl); (focus (simp (disch := first | omega | (intros; contradiction)) only [bunK, bunX, C.at, C.put, List.dropLast, List.isPrefixOf, Nat.reduceMul, Nat.reduceLT, Nat.reduceLeDiff, Nat.reduceBEq, Nat.reduceEqDiff, reduceCtorEq, Nat.reduceAdd, ↓reduceIte, tab27, tab25, tab3, tab24, tab67, if_pos, rowi, tab69, getDe, getDp, getDi, toNat0, toNat1 , may84]; exact rfl)))
 refine aops_end (hK _ (dwK [4] ?_))
 clear hK K
 exact dw_ret (fin_ret Tryz.results83 (.one (.plain _ _ rfl)) (by decide) rfl)
theorem reach_all {N : Net} (hs : Sym N.ends) {a b : Nat} (ha : a < N.ends.length) (hb : b < N.ends.length) (h : ∀ w, w < N.ends.length → 0 ≤ gi (dists N a) w) : ∀ w, w < N.ends.length → 0 ≤ gi (dists N b) w := by
 have hx := dists_is hs ha
 have hy := dists_is hs hb
 have h1 : ∀ (k : Nat) w, w < N.ends.length → gi (dists N a) w = k → 0 ≤ gi (dists N b) w → 0 ≤ gi (dists N b) a := fun k => by
  induction k with
  | zero => intro w hw hk h2; rw [← hx.zero w hw (by simpa using hk)]; exact h2
  | succ k ih =>
   intro w hw hk h2
   obtain ⟨j, hj, h3⟩ := hx.back w hw (by omega)
   exact ih _ (sym_nd hs hw hj).1 (by omega) (hy.step w hw h2 j hj).1
 obtain ⟨k, hk⟩ := Int.eq_ofNat_of_zero_le (h b hb)
 have h0 := h1 k b hb hk (by rw [hy.root]; exact Int.le_refl 0)
 have h2 : ∀ (k : Nat) w, w < N.ends.length → gi (dists N a) w = k → 0 ≤ gi (dists N b) w := fun k => by
  induction k with
  | zero => intro w hw hk; rw [hx.zero w hw (by simpa using hk)]; exact h0
  | succ k ih =>
   intro w hw hk
   obtain ⟨j, hj, h3⟩ := hx.back w hw (by omega)
   obtain ⟨h4, h5, h6, -⟩ := sym_nd hs hw hj
   have := (hy.step _ h4 (ih _ h4 (by omega)) _ h5).1
   rwa [h6] at this
 intro w hw
 obtain ⟨k, hk⟩ := Int.eq_ofNat_of_zero_le (h w hw)
 exact h2 k w hw hk
theorem conn_any {N : Net} (hs : Sym N.ends) {a b : Nat} (ha : a < N.ends.length) (hb : b < N.ends.length) : connB N a = connB N b := by
 rw [Bool.eq_iff_iff, connB_iff hs ha, connB_iff hs hb]
 exact ⟨reach_all hs ha hb, reach_all hs hb ha⟩
theorem conn_idx {N : Net} (hs : Sym N.ends) {a : Nat} (ha : a < N.ends.length) : (!decide (0 ≤ idxI (dists N a) (-1))) = connB N a := by
 have hd := dists_is hs ha
 rcases fstI_cases (dists N a).length (fun j => gi (dists N a) j == -1) with ⟨h1, h2⟩ | ⟨m, h1, h2, h3, -⟩
 ·have e : decide (0 ≤ idxI (dists N a) (-1)) = false := by unfold idxI; rw [h1]; rfl
  rw [e]
  refine ((connB_iff hs ha).2 fun w hw => ?_).symm
  have h3 := h2 w (by rw [hd.len]; exact hw)
  have h4 := hd.low w hw
  have : gi (dists N a) w ≠ -1 := by simpa using h3
  omega
 ·have e : decide (0 ≤ idxI (dists N a) (-1)) = true := by unfold idxI; rw [h1]; simp
  rw [e]
  refine (Bool.eq_false_iff.2 fun hc => ?_).symm
  rw [hd.len] at h2
  have := (connB_iff hs ha).1 hc m h2
  have h4 : gi (dists N a) m = -1 := by simpa using h3
  omega
set_option maxRecDepth 8000 in
set_option maxHeartbeats 0 in
theorem isConnected_d (f : NF) (N : Net) (hg : goodB N = true) {a : Nat} (ha : a < N.ends.length) : DCalls Tryz.prog 38 [.agg (netC f N)] (fun r => r = [.c (.p (.bool (connB N a)))]) := by -- params impl.Network
 have hs : Sym N.ends := (goodB_fine hg).sym
 have hn := good_len hg
 have hdg : ∀ a, (gl N.ends a).length ≤ 1000 := fun a => by
  rcases Nat.lt_or_ge a N.ends.length with h | h
  ·have := good_deg hg h; omega
  ·have : gl N.ends a = [] := by unfold gl; rw [List.getD_eq_getElem?_getD, List.getElem?_eq_none h]; rfl
   rw [this]; simp
 have hdl := (dists_is hs (show 0 < N.ends.length by omega)).len
 have hc0 := conn_idx hs (show 0 < N.ends.length by omega)
 have hca := conn_any hs (show 0 < N.ends.length by omega) ha
 refine dcalls_of Tryz.func38 rfl (by rw [Tryz.ntmps38]; simp) fun w0 => ?_
 rw [Tryz.ntmps38]
 have dfx := dfxDwx
 simp only [initE, argsL, Arg.av, netC, endss, ints, ends]
 refine dw_seq (dwR fun K hK => ?_)
 repeat refine evF ?_
 refine aops_end (hK _ (dwK [1] ?_))
 clear hK K
 refine dw_seq (dwR fun K hK => ?_)
 repeat (apply aops_ev; (focus exact rfl); (focus (simp (disch := first | omega | (intros; contradiction)) only [bunK, bunX, C.at, C.put, List.dropLast, List.isPrefixOf, Nat.reduceMul, Nat.reduceLT, Nat.reduceLeDiff, Nat.reduceBEq, Nat.reduceEqDiff, reduceCtorEq, Nat.reduceAdd, ↓reduceIte, tab27, tab25, tab3, tab24, tab67, if_pos, rowi, tab69, getDe, getDp, getDi, toNat0, toNat1 , may37, may83]; exact rfl)))
 refine aops_call rfl ⟨rfl, _, rfl⟩ (by omega) (by first | exact may37 | exact may83) (by simp (disch := first | omega | (intros; contradiction)) only [bunK, bunX, C.at, C.put, List.dropLast, List.isPrefixOf, Nat.reduceMul, Nat.reduceLT, Nat.reduceLeDiff, Nat.reduceBEq, Nat.reduceEqDiff, reduceCtorEq, Nat.reduceAdd, ↓reduceIte, tab27, tab25, tab3, tab24, tab67, if_pos, rowi, tab69, getDe, getDp, getDi, toNat0, toNat1 , may37, may83] <;> exact rfl) (distancesFrom_d ⟨false, f.t1, f.o2, f.t2, false, f.t3, false, f.t4⟩ N 0 hs (by omega) (by omega) hdg) ?_
 rintro _ rfl
 repeat (apply aops_ev; (focus exact rfl); (focus (simp (disch := first | omega | (intros; contradiction)) only [bunK, bunX, C.at, C.put, List.dropLast, List.isPrefixOf, Nat.reduceMul, Nat.reduceLT, Nat.reduceLeDiff, Nat.reduceBEq, Nat.reduceEqDiff, reduceCtorEq, Nat.reduceAdd, ↓reduceIte, tab27, tab25, tab3, tab24, tab67, if_pos, rowi, tab69, getDe, getDp, getDi, toNat0, toNat1 , may37, may83]; exact rfl)))
 refine aops_call rfl ⟨rfl, _, rfl⟩ (by omega) (by first | exact may37 | exact may83) (by simp (disch := first | omega | (intros; contradiction)) only [bunK, bunX, C.at, C.put, List.dropLast, List.isPrefixOf, Nat.reduceMul, Nat.reduceLT, Nat.reduceLeDiff, Nat.reduceBEq, Nat.reduceEqDiff, reduceCtorEq, Nat.reduceAdd, ↓reduceIte, tab27, tab25, tab3, tab24, tab67, if_pos, rowi, tab69, getDe, getDp, getDi, toNat0, toNat1 , may37, may83] <;> exact rfl) (Contains_d true 3 (dists N 0) (-1) (by omega)) ?_
 rintro _ rfl
 repeat (apply aops_ev; (focus exact rfl); (focus (simp (disch := first | omega | (intros; contradiction)) only [bunK, bunX, C.at, C.put, List.dropLast, List.isPrefixOf, Nat.reduceMul, Nat.reduceLT, Nat.reduceLeDiff, Nat.reduceBEq, Nat.reduceEqDiff, reduceCtorEq, Nat.reduceAdd, ↓reduceIte, tab27, tab25, tab3, tab24, tab67, if_pos, rowi, tab69, getDe, getDp, getDi, toNat0, toNat1 , may37, may83]; exact rfl)))
 have dfk := And.intro @hc0 @hca
 refine aops_end (hK _ (dwKF [2] ?_))
 clear hK K
 exact dw_ret (fin_ret Tryz.results38 (.one (.plain _ _ rfl)) (by decide) rfl)
set_option maxRecDepth 8000 in
set_option maxHeartbeats 0 in
theorem IsConnected_d (f : NF) (N : Net) (hg : goodB N = true) {a : Nat} (ha : a < N.ends.length) : DCalls Tryz.prog 11 [.agg (netC f N)] (fun r => r = [.c (.p (.bool (connB N a))), .c (.p (.bool true))]) := by -- params impl.Network
 have hids : N.ids.length ≤ 2097152 := by have := good_ids hg; omega
 refine dcalls_of Tryz.func11 rfl (by rw [Tryz.ntmps11]; simp) fun w0 => ?_
 rw [Tryz.ntmps11]
 have dfx := dfxDwx
 simp only [initE, argsL, Arg.av, netC, endss, ints, ends]
 refine dw_seq (dwR fun K hK => ?_)
 repeat refine evF ?_
 refine aops_end (hK _ (dwK [1] ?_))
 clear hK K
 refine dw_seq ?_
 refine dw_seq (dwR fun K hK => ?_)
 repeat refine evF ?_
 refine clF rfl ⟨rfl, _, rfl⟩ (by omega) (by first | exact may32) (IsNetwork_d ⟨false, f.t1, f.o2, f.t2, false, f.t3, false, f.t4⟩ N hids) ?_
 rintro _ rfl
 repeat refine evF ?_
 have dfk := @hg
 refine aops_end (hK _ (dwKF [1, 6] ?_))
 clear hK K
 refine dwI (fun hb => ?_) (fun hb => ?_)
 ·cases hb
 ·refine dw_skip ?_
  show DW _ _ _ _ _
  refine dw_seq (dwR fun K hK => ?_)
  repeat refine evF ?_
  refine clF rfl ⟨rfl, _, rfl⟩ (by omega) (by first | exact may38) (isConnected_d ⟨false, f.t1, f.o2, f.t2, false, f.t3, false, f.t4⟩ N hg ha) ?_
  rintro _ rfl
  repeat refine evF ?_
  refine aops_end (hK _ (dwK [2, 3] ?_))
  clear hK K
  exact dw_ret (fin_ret Tryz.results11 (.two (.plain _ _ rfl) (.plain _ _ rfl)) (by decide) rfl)
end
section
open Go Go.RowKit
def TreeRs (N : Net) (ps : List Int) (r : Nat) (ds : List Int) (ok : Bool) : Prop := (TreeAt N ps r ds ∧ ok = true) ∨ ((¬ ∃ r ds, TreeAt N ps r ds) ∧ r = 0 ∧ ds = [] ∧ ok = false)
def SumRs (N : Net) (ps vals s : List Int) (h b : Int) (ok : Bool) : Prop := (SumOk N ps vals ∧ SumIs N ps vals s h b ∧ ok = true) ∨ (¬ SumOk N ps vals ∧ s = [] ∧ h = 0 ∧ b = 0 ∧ ok = false)
theorem treeDepths_d (f : NF) (N : Net) (o : Bool) (t : TypeId) (ps : List Int) (hg : goodB N = true) {r : Nat} {ds : List Int} {ok : Bool} (h : TreeRs N ps r ds ok) : DCalls Tryz.prog 39 [.agg (netC f N), .c (.sl o t 1 (ps.map iC))] (fun q => q = [.c (.p (.int .i64 r)), .own false [.sl true 3 1 (ds.map iC)], .c (.p (.bool ok))]) := dcalls_tup fun w vs h1 h2 => by
 obtain ⟨u, v, rfl, g1, g2⟩ := args2 h1 h2
 refine (treeDepths_any u v N ps w (argN g1) (RO_ints (o := o) (t := t) g2) hg).mono ?_
 rintro e w' ⟨hb, ⟨r', ds', x, h3, rfl, ho⟩ | ⟨h3, rfl⟩⟩
 ·rcases h with ⟨h4, rfl⟩ | ⟨h4, -⟩
  ·obtain ⟨rfl, rfl⟩ := h4.unique h3
   refine ⟨_, 1, _, x, rfl, hb, by simp, rfl, rfl, rfl, ho, fun i hi hl => ?_⟩
   match i, hl with
   | 0, _ => exact ⟨_, rfl, rfl⟩
   | 1, _ => exact absurd rfl hi
   | 2, _ => exact ⟨_, rfl, rfl⟩
  ·exact absurd ⟨_, _, h3⟩ h4
 ·rcases h with ⟨h4, -⟩ | ⟨-, rfl, rfl, rfl⟩
  ·exact absurd ⟨_, _, h4⟩ h3
  ·refine ⟨_, 1, _, .slice none 0 0, rfl, hb, by simp, rfl, rfl, rfl, OwnI.nil, fun i hi hl => ?_⟩
   match i, hl with
   | 0, _ => exact ⟨_, rfl, rfl⟩
   | 1, _ => exact absurd rfl hi
   | 2, _ => exact ⟨_, rfl, rfl⟩
theorem sum_tup {P : Program} {f : FuncId} {ags : List Arg} {N : Net} {ps vals s : List Int} {h b : Int} {ok : Bool} (hg : SumOk N ps vals → goodB N = true) (hr : SumRs N ps vals s h b ok)
 (hc : ∀ w (vs : Array Value), vs.size = ags.length → (∀ (i : Nat) (x : Arg), ags[i]? = some x → ∃ u, vs[i]? = some u ∧ ArgOk w x u) → Calls P f vs w (RetSum N ps vals w)) :
 DCalls P f ags (fun q => q = [.own false [.sl true 3 1 (s.map iC)], .c (.p (.int .i64 h)), .c (.p (.int .i64 b)), .c (.p (.bool ok))]) := dcalls_tup fun w vs h1 h2 => by
 refine (hc w vs h1 h2).mono ?_
 rintro e w' ⟨hb, ⟨h3, x, s', h', b', h4, rfl, ho⟩ | ⟨h3, rfl⟩⟩
 ·rcases hr with ⟨h5, h6, rfl⟩ | ⟨h5, -⟩
  ·obtain ⟨rfl, rfl, rfl⟩ := SumIs.unique (hg h5) h6 h4
   refine ⟨_, 0, _, x, rfl, hb, by simp, rfl, rfl, rfl, ho, fun i hi hl => ?_⟩
   match i, hl with
   | 0, _ => exact absurd rfl hi
   | 1, _ => exact ⟨_, rfl, rfl⟩
   | 2, _ => exact ⟨_, rfl, rfl⟩
   | 3, _ => exact ⟨_, rfl, rfl⟩
  ·exact absurd h3 h5
 ·rcases hr with ⟨h5, -⟩ | ⟨-, rfl, rfl, rfl, rfl⟩
  ·exact absurd h5 h3
  ·refine ⟨_, 0, _, .slice none 0 0, rfl, hb, by simp, rfl, rfl, rfl, OwnI.nil, fun i hi hl => ?_⟩
   match i, hl with
   | 0, _ => exact absurd rfl hi
   | 1, _ => exact ⟨_, rfl, rfl⟩
   | 2, _ => exact ⟨_, rfl, rfl⟩
   | 3, _ => exact ⟨_, rfl, rfl⟩
theorem implSumUp_d (f : NF) (N : Net) (o : Bool) (t : TypeId) (ps : List Int) (o2 : Bool) (t2 : TypeId) (vals : List Int) (hi : N.ids.length ≤ 2097152) (hv : vals.length ≤ 2097152) {s : List Int} {h b : Int} {ok : Bool} (hr : SumRs N ps vals s h b ok) :
 DCalls Tryz.prog 16 [.agg (netC f N), .c (.sl o t 1 (ps.map iC)), .c (.sl o2 t2 1 (vals.map iC))] (fun q => q = [.own false [.sl true 3 1 (s.map iC)], .c (.p (.int .i64 h)), .c (.p (.int .i64 b)), .c (.p (.bool ok))]) :=
 sum_tup (fun h => h.1) hr fun w vs h1 h2 => by
  obtain ⟨u, v, x, rfl, g1, g2, g3⟩ := args3 h1 h2
  exact implSumUp_any u v x N ps vals w (argN g1) (RO_ints (o := o) (t := t) g2) (RO_ints (o := o2) (t := t2) g3) hi hv
theorem specSumUp_d (f : NF) (N : Net) (o : Bool) (t : TypeId) (ps : List Int) (o2 : Bool) (t2 : TypeId) (vals : List Int) {s : List Int} {h b : Int} {ok : Bool} (hr : SumRs N ps vals s h b ok) :
 DCalls Tryz.prog 17 [.agg (netC f N), .c (.sl o t 1 (ps.map iC)), .c (.sl o2 t2 1 (vals.map iC))] (fun q => q = [.own false [.sl true 3 1 (s.map iC)], .c (.p (.int .i64 h)), .c (.p (.int .i64 b)), .c (.p (.bool ok))]) :=
 sum_tup (fun h => h.1) hr fun w vs h1 h2 => by
  obtain ⟨u, v, x, rfl, g1, g2, g3⟩ := args3 h1 h2
  exact specSumUp_any u v x N ps vals w (argN g1) (RO_ints (o := o) (t := t) g2) (RO_ints (o := o2) (t := t2) g3)
theorem dfxDwy : type_of% (And.intro tab27 (And.intro tab25 (And.intro tab3 (And.intro tab24 (And.intro tab67 (And.intro @if_pos.{1} (And.intro @rowi (And.intro tab69 (And.intro @getDe (And.intro @getDp (And.intro @getDi (And.intro @toNat0 (And.intro @toNat1 @trivial))))))))))))) := And.intro tab27 (And.intro tab25 (And.intro tab3 (And.intro tab24 (And.intro tab67 (And.intro @if_pos.{1} (And.intro @rowi (And.intro tab69 (And.intro @getDe (And.intro @getDp (And.intro @getDi (And.intro @toNat0 (And.intro @toNat1 @trivial))))))))))))
set_option maxRecDepth 8000 in
set_option maxHeartbeats 0 in
theorem TreeRoot_d (f : NF) (N : Net) (o : Bool) (t : TypeId) (ps : List Int) (hg : goodB N = true) {r : Nat} {ds : List Int} {ok : Bool} (h : TreeRs N ps r ds ok) : DCalls Tryz.prog 12 [.agg (netC f N), .c (.sl o t 1 (ps.map iC))] (fun q => q = [.c (.p (.int .i64 r)), .c (.p (.bool ok))]) := by -- params impl.Network, []int
 have hids : N.ids.length ≤ 2097152 := by have := good_ids hg; omega
 refine dcalls_of Tryz.func12 rfl (by rw [Tryz.ntmps12]; simp) fun w0 => ?_
 rw [Tryz.ntmps12]
 have dfx := dfxDwy
 simp only [initE, argsL, Arg.av, netC, endss, ints, ends]
 refine dw_seq (dwR fun K hK => ?_)
 repeat refine evF ?_
 refine aops_end (hK _ (dwK [1, 2] ?_))
 clear hK K
 refine dw_seq ?_
 refine dw_seq (dwR fun K hK => ?_)
 repeat refine evF ?_
 refine clF rfl ⟨rfl, _, rfl⟩ (by omega) (by first | exact may32) (IsNetwork_d ⟨false, f.t1, f.o2, f.t2, false, f.t3, false, f.t4⟩ N hids) ?_
 rintro _ rfl
 repeat refine evF ?_
 have dfk := @hg
 refine aops_end (hK _ (dwKF [1, 2, 11] ?_))
 clear hK K
 refine dwI (fun hb => ?_) (fun hb => ?_)
 ·cases hb
 ·refine dw_skip ?_
  show DW _ _ _ _ _
  refine dw_seq (dwR fun K hK => ?_)
  repeat refine evF ?_
  refine clF rfl ⟨rfl, _, rfl⟩ (by omega) (by first | exact may39) (treeDepths_d ⟨false, f.t1, f.o2, f.t2, false, f.t3, false, f.t4⟩ N o t ps hg h) ?_
  rintro _ rfl
  repeat refine evF ?_
  refine aops_end (hK _ (dwK [6, 8] ?_))
  clear hK K
  refine dw_seq (dwR fun K hK => ?_)
  repeat refine evF ?_
  refine aops_end (hK _ (dwK [4, 5] ?_))
  clear hK K
  exact dw_ret (fin_ret Tryz.results12 (.two (.plain _ _ rfl) (.plain _ _ rfl)) (by decide) rfl)
set_option maxRecDepth 8000 in
set_option maxHeartbeats 0 in
theorem TreeDepths_d (f : NF) (N : Net) (o : Bool) (t : TypeId) (ps : List Int) (hg : goodB N = true) {r : Nat} {ds : List Int} {ok : Bool} (h : TreeRs N ps r ds ok) : DCalls Tryz.prog 14 [.agg (netC f N), .c (.sl o t 1 (ps.map iC))] (fun q => q = [.own false [.sl true 3 1 (ds.map iC)], .c (.p (.bool ok))]) := by -- params impl.Network, []int
 have hids : N.ids.length ≤ 2097152 := by have := good_ids hg; omega
 refine dcalls_of Tryz.func14 rfl (by rw [Tryz.ntmps14]; simp) fun w0 => ?_
 rw [Tryz.ntmps14]
 have dfx := dfxDwy
 simp only [initE, argsL, Arg.av, netC, endss, ints, ends]
 refine dw_seq (dwR fun K hK => ?_)
 repeat refine evF ?_
 refine aops_end (hK _ (dwK [1, 2] ?_))
 clear hK K
 refine dw_seq ?_
 refine dw_seq (dwR fun K hK => ?_)
 repeat refine evF ?_
 refine clF rfl ⟨rfl, _, rfl⟩ (by omega) (by first | exact may32) (IsNetwork_d ⟨false, f.t1, f.o2, f.t2, false, f.t3, false, f.t4⟩ N hids) ?_
 rintro _ rfl
 repeat refine evF ?_
 have dfk := @hg
 refine aops_end (hK _ (dwKF [1, 2, 11] ?_))
 clear hK K
 refine dwI (fun hb => ?_) (fun hb => ?_)
 ·cases hb
 ·refine dw_skip ?_
  show DW _ _ _ _ _
  refine dw_seq (dwR fun K hK => ?_)
  repeat refine evF ?_
  refine clF rfl ⟨rfl, _, rfl⟩ (by omega) (by first | exact may39) (treeDepths_d ⟨false, f.t1, f.o2, f.t2, false, f.t3, false, f.t4⟩ N o t ps hg h) ?_
  rintro _ rfl
  repeat refine evF ?_
  refine aops_end (hK _ (dwK [7, 8] ?_))
  clear hK K
  refine dw_seq (dwR fun K hK => ?_)
  repeat refine evF ?_
  refine aops_end (hK _ (dwK [4, 5] ?_))
  clear hK K
  exact dw_ret (fin_ret Tryz.results14 (.two (.own _ _ _ _ rfl rfl (own1 (owned_ints _ _))) (.plain _ _ rfl)) (by decide) rfl)
end
section
open Go Go.RowKit
theorem nodeB_at {N : Net} {x : Int} (h : nodeB N x = true) : ∃ v : Nat, x = v ∧ v < N.ends.length ∧ goodB N = true := by
 unfold nodeB at h
 simp only [Bool.and_eq_true] at h
 have := inB_iff.1 h.2
 exact ⟨x.toNat, by omega, by omega, h.1⟩
theorem nodeB_of {N : Net} {v : Nat} (hg : goodB N = true) (hv : v < N.ends.length) : nodeB N v = true := by
 unfold nodeB
 rw [hg, inB_iff.2 (by omega)]; rfl
theorem dfxDwz : type_of% (And.intro tab27 (And.intro tab25 (And.intro tab3 (And.intro tab24 (And.intro tab67 (And.intro @if_pos.{1} (And.intro @rowi (And.intro tab69 (And.intro @getDe (And.intro @getDp (And.intro @getDi (And.intro @toNat0 (And.intro @toNat1 @trivial))))))))))))) := And.intro tab27 (And.intro tab25 (And.intro tab3 (And.intro tab24 (And.intro tab67 (And.intro @if_pos.{1} (And.intro @rowi (And.intro tab69 (And.intro @getDe (And.intro @getDp (And.intro @getDi (And.intro @toNat0 (And.intro @toNat1 @trivial))))))))))))
set_option maxRecDepth 8000 in
set_option maxHeartbeats 0 in
theorem DistancesFrom_d (f : NF) (N : Net) (v : Nat) (hg : goodB N = true) (hv : v < N.ends.length) : DCalls Tryz.prog 10 [.agg (netC f N), .c (.p (.int .i64 v))] (fun r => r = [.own false [.sl true 3 1 ((dists N v).map iC)], .c (.p (.bool true))]) := by -- params impl.Network, int
 have hs : Sym N.ends := (goodB_fine hg).sym
 have hn := good_len hg
 have hids : N.ids.length ≤ 2097152 := by have := good_ids hg; omega
 have hin : inB (v : Int) 0 ((N.ends.length : Int) - 1) = true := inB_iff.2 (by omega)
 have hdg : ∀ a, (gl N.ends a).length ≤ 1000 := fun a => by
  rcases Nat.lt_or_ge a N.ends.length with h | h
  ·have := good_deg hg h; omega
  ·have : gl N.ends a = [] := by unfold gl; rw [List.getD_eq_getElem?_getD, List.getElem?_eq_none h]; rfl
   rw [this]; simp
 refine dcalls_of Tryz.func10 rfl (by rw [Tryz.ntmps10]; simp) fun w0 => ?_
 rw [Tryz.ntmps10]
 have dfx := dfxDwz
 simp only [initE, argsL, Arg.av, netC, endss, ints, ends]
 refine dw_seq (dwR fun K hK => ?_)
 repeat refine evF ?_
 refine aops_end (hK _ (dwK [1, 2] ?_))
 clear hK K
 refine dw_seq ?_
 refine dw_seq (dwR fun K hK => ?_)
 repeat refine evF ?_
 refine clF rfl ⟨rfl, _, rfl⟩ (by omega) (by first | exact may32 | exact may33) (IsNetwork_d ⟨false, f.t1, f.o2, f.t2, false, f.t3, false, f.t4⟩ N hids) ?_
 rintro _ rfl
 repeat refine evF ?_
 have dfx := And.intro dfx (@hg)
 repeat refine evF ?_
 refine cgF rfl rfl ⟨rfl, _, rfl⟩ (by omega) (by first | exact may32 | exact may33) (hasNode_d ⟨false, f.t1, f.o2, f.t2, false, f.t3, false, f.t4⟩ N v (by omega)) ?_
 rintro _ rfl
 repeat refine evF ?_
 have dfx := And.intro dfx (@hin)
 repeat refine evF ?_
 have dfk := And.intro @hin @hg
 refine aops_end (hK _ (dwKF [1, 2, 14] ?_))
 clear hK K
 refine dwI (fun hb => ?_) (fun hb => ?_)
 ·cases hb
 ·refine dw_skip ?_
  show DW _ _ _ _ _
  refine dw_seq (dwR fun K hK => ?_)
  repeat refine evF ?_
  refine clF rfl ⟨rfl, _, rfl⟩ (by omega) (by first | exact may37) (distancesFrom_d ⟨false, f.t1, f.o2, f.t2, false, f.t3, false, f.t4⟩ N v hs hv (by omega) hdg) ?_
  rintro _ rfl
  repeat refine evF ?_
  refine aops_end (hK _ (dwK [4, 5] ?_))
  clear hK K
  exact dw_ret (fin_ret Tryz.results10 (.two (.own _ _ _ _ rfl rfl (own1 (owned_ints _ _))) (.plain _ _ rfl)) (by decide) rfl)
def WaveRs (N : Net) (x : Int) (P D : List Int) (m : Int) (ok : Bool) : Prop := (∃ v : Nat, x = v ∧ v < N.ends.length ∧ goodB N = true ∧ P = wpar N v ∧ D = dists N v ∧ m = wmsg N v ∧ ok = true) ∨ (nodeB N x = false ∧ P = [] ∧ D = [] ∧ m = 0 ∧ ok = false)
theorem waveRs_ex (N : Net) (x : Int) : ∃ P D m ok, WaveRs N x P D m ok := by
 cases h : nodeB N x with
 | true => obtain ⟨v, h1, h2, h3⟩ := nodeB_at h; exact ⟨_, _, _, _, .inl ⟨v, h1, h2, h3, rfl, rfl, rfl, rfl⟩⟩
 | false => exact ⟨_, _, _, _, .inr ⟨h, rfl, rfl, rfl, rfl⟩⟩
set_option maxRecDepth 8000 in
set_option maxHeartbeats 0 in
theorem implWave_d (f : NF) (N : Net) (x : Int) (hi : N.ids.length ≤ 2097152) (hl : N.ends.length ≤ 2097152) {P D : List Int} {m : Int} {ok : Bool} (h : WaveRs N x P D m ok) : DCalls Tryz.prog 7 [.agg (netC f N), .c (.p (.int .i64 x))] (fun r => r = [.own false [.sl true 3 1 (P.map iC)], .own false [.sl true 3 1 (D.map iC)], .c (.p (.int .i64 m)), .c (.p (.bool ok))]) := by
 rcases h with ⟨v, rfl, hv, hg, rfl, rfl, rfl, rfl⟩ | ⟨hno, rfl, rfl, rfl, rfl⟩
 ·exact implWaveFrom_d f N v hg hv
 refine dcalls_of Tryz.func7 rfl (by rw [Tryz.ntmps7]; simp) fun w0 => ?_
 rw [Tryz.ntmps7]
 have dfx := dfxDwz
 simp only [initE, argsL, Arg.av, netC, endss, ints, ends]
 refine dw_seq (dwR fun K hK => ?_)
 repeat refine evF ?_
 refine aops_end (hK _ (dwK [1, 2] ?_))
 clear hK K
 refine dw_seq ?_
 refine dw_seq (dwR fun K hK => ?_)
 repeat refine evF ?_
 refine clF rfl ⟨rfl, _, rfl⟩ (by omega) (by first | exact may32 | exact may33) (IsNetwork_d ⟨false, f.t1, f.o2, f.t2, false, f.t3, false, f.t4⟩ N hi) ?_
 rintro _ rfl
 repeat refine evF ?_
 obtain hg | hg := Bool.eq_false_or_eq_true (goodB N)
 ·have hin : inB x 0 ((N.ends.length : Int) - 1) = false := by
   unfold nodeB at hno
   rw [hg] at hno
   simpa using hno
  have dfx := And.intro dfx (@hg)
  repeat refine evF ?_
  refine cgF rfl rfl ⟨rfl, _, rfl⟩ (by omega) (by first | exact may32 | exact may33) (hasNode_d ⟨false, f.t1, f.o2, f.t2, false, f.t3, false, f.t4⟩ N x hl) ?_
  rintro _ rfl
  repeat refine evF ?_
  have dfx := And.intro dfx (@hin)
  repeat refine evF ?_
  have dfk := And.intro @hin @hg
  refine aops_end (hK _ (dwKF [27] ?_))
  clear hK K
  refine dwI (fun hb => ?_) (fun hb => ?_)
  ·refine dw_seq (dwR fun K hK => ?_)
   repeat refine evF ?_
   refine aops_end (hK _ (dwK [4, 5, 6, 7] ?_))
   clear hK K
   refine dw_nil 4 3 1 (by decide) (by simp only [bunK, C.at, C.put, List.dropLast, List.isPrefixOf, Nat.reduceMul, Nat.reduceLT, Nat.reduceLeDiff, Nat.reduceBEq, Nat.reduceEqDiff, reduceCtorEq, Nat.reduceAdd, ↓reduceIte]) [4, 5, 6, 7] (by simp only [bunK, C.at, C.put, List.dropLast, List.isPrefixOf, Nat.reduceMul, Nat.reduceLT, Nat.reduceLeDiff, Nat.reduceBEq, Nat.reduceEqDiff, reduceCtorEq, Nat.reduceAdd, ↓reduceIte]; exact rfl) ?_
   refine dw_nil 5 3 1 (by decide) (by simp only [bunK, C.at, C.put, List.dropLast, List.isPrefixOf, Nat.reduceMul, Nat.reduceLT, Nat.reduceLeDiff, Nat.reduceBEq, Nat.reduceEqDiff, reduceCtorEq, Nat.reduceAdd, ↓reduceIte]) [4, 5, 6, 7] (by simp only [bunK, C.at, C.put, List.dropLast, List.isPrefixOf, Nat.reduceMul, Nat.reduceLT, Nat.reduceLeDiff, Nat.reduceBEq, Nat.reduceEqDiff, reduceCtorEq, Nat.reduceAdd, ↓reduceIte]; exact rfl) ?_
   exact dw_ret (fin_ret Tryz.results7 (.four (.own _ _ _ _ rfl rfl (own1 (owned_ints _ []))) (.own _ _ _ _ rfl rfl (own1 (owned_ints _ []))) (.plain _ _ rfl) (.plain _ _ rfl)) (by decide) rfl)
  ·cases hb
 ·have dfx := And.intro dfx (@hg)
  repeat refine evF ?_
  have dfx := And.intro dfx (@hg)
  refine csF ?_
  repeat refine evF ?_
  have dfx := And.intro dfx (@hg)
  repeat refine evF ?_
  have dfk := @hg
  refine aops_end (hK _ (dwKF [27] ?_))
  clear hK K
  refine dwI (fun hb => ?_) (fun hb => ?_)
  ·refine dw_seq (dwR fun K hK => ?_)
   repeat refine evF ?_
   refine aops_end (hK _ (dwK [4, 5, 6, 7] ?_))
   clear hK K
   refine dw_nil 4 3 1 (by decide) (by simp only [bunK, C.at, C.put, List.dropLast, List.isPrefixOf, Nat.reduceMul, Nat.reduceLT, Nat.reduceLeDiff, Nat.reduceBEq, Nat.reduceEqDiff, reduceCtorEq, Nat.reduceAdd, ↓reduceIte]) [4, 5, 6, 7] (by simp only [bunK, C.at, C.put, List.dropLast, List.isPrefixOf, Nat.reduceMul, Nat.reduceLT, Nat.reduceLeDiff, Nat.reduceBEq, Nat.reduceEqDiff, reduceCtorEq, Nat.reduceAdd, ↓reduceIte]; exact rfl) ?_
   refine dw_nil 5 3 1 (by decide) (by simp only [bunK, C.at, C.put, List.dropLast, List.isPrefixOf, Nat.reduceMul, Nat.reduceLT, Nat.reduceLeDiff, Nat.reduceBEq, Nat.reduceEqDiff, reduceCtorEq, Nat.reduceAdd, ↓reduceIte]) [4, 5, 6, 7] (by simp only [bunK, C.at, C.put, List.dropLast, List.isPrefixOf, Nat.reduceMul, Nat.reduceLT, Nat.reduceLeDiff, Nat.reduceBEq, Nat.reduceEqDiff, reduceCtorEq, Nat.reduceAdd, ↓reduceIte]; exact rfl) ?_
   exact dw_ret (fin_ret Tryz.results7 (.four (.own _ _ _ _ rfl rfl (own1 (owned_ints _ []))) (.own _ _ _ _ rfl rfl (own1 (owned_ints _ []))) (.plain _ _ rfl) (.plain _ _ rfl)) (by decide) rfl)
  ·cases hb
set_option maxRecDepth 8000 in
set_option maxHeartbeats 0 in
theorem specWave_d (f : NF) (N : Net) (x : Int) {P D : List Int} {m : Int} {ok : Bool} (h : WaveRs N x P D m ok) : DCalls Tryz.prog 8 [.agg (netC f N), .c (.p (.int .i64 x))] (fun r => r = [.own false [.sl true 3 1 (P.map iC)], .own false [.sl true 3 1 (D.map iC)], .c (.p (.int .i64 m)), .c (.p (.bool ok))]) := by
 refine dcalls_of Tryz.func8 rfl (by rw [Tryz.ntmps8]; simp) fun w0 => ?_
 rw [Tryz.ntmps8]
 have dfx := dfxDwz
 simp only [initE, argsL, Arg.av, netC, endss, ints, ends]
 refine dw_seq (dwR fun K hK => ?_)
 repeat refine evF ?_
 refine aops_end (hK _ (dwK [1, 2] ?_))
 clear hK K
 refine dw_seq ?_
 refine dw_seq (dwR fun K hK => ?_)
 repeat refine evF ?_
 refine clF rfl ⟨rfl, _, rfl⟩ (by omega) (by first | exact may35) (neNode_d ⟨false, f.t1, f.o2, f.t2, false, f.t3, false, f.t4⟩ N x) ?_
 rintro _ rfl
 repeat refine evF ?_
 rcases h with ⟨v, rfl, hv, hg, rfl, rfl, rfl, rfl⟩ | ⟨hno, rfl, rfl, rfl, rfl⟩
 ·have hnb := nodeB_of hg hv
  have dfk := @hnb
  refine aops_end (hK _ (dwKF [1, 2, 14] ?_))
  clear hK K
  refine dwI (fun hb => ?_) (fun hb => ?_)
  ·cases hb
  ·refine dw_skip ?_
   show DW _ _ _ _ _
   refine dw_seq (dwR fun K hK => ?_)
   repeat refine evF ?_
   refine clF rfl ⟨rfl, _, rfl⟩ (by omega) (by first | exact may36) (biWave_d ⟨false, f.t1, f.o2, f.t2, false, f.t3, false, f.t4⟩ N v hg hv) ?_
   rintro _ rfl
   repeat refine evF ?_
   refine aops_end (hK _ (dwK [8, 9, 10] ?_))
   clear hK K
   refine dw_seq (dwR fun K hK => ?_)
   repeat refine evF ?_
   refine aops_end (hK _ (dwK [4, 5, 6, 7] ?_))
   clear hK K
   exact dw_ret (fin_ret Tryz.results8 (.four (.own _ _ _ _ rfl rfl (own1 (owned_ints _ _))) (.own _ _ _ _ rfl rfl (own1 (owned_ints _ _))) (.plain _ _ rfl) (.plain _ _ rfl)) (by decide) rfl)
 ·have dfk := @hno
  refine aops_end (hK _ (dwKF [1, 2, 14] ?_))
  clear hK K
  refine dwI (fun hb => ?_) (fun hb => ?_)
  ·refine dw_seq (dwR fun K hK => ?_)
   repeat refine evF ?_
   refine aops_end (hK _ (dwK [4, 5, 6, 7] ?_))
   clear hK K
   refine dw_nil 4 3 1 (by decide) (by simp only [bunK, C.at, C.put, List.dropLast, List.isPrefixOf, Nat.reduceMul, Nat.reduceLT, Nat.reduceLeDiff, Nat.reduceBEq, Nat.reduceEqDiff, reduceCtorEq, Nat.reduceAdd, ↓reduceIte]) [4, 5, 6, 7] (by simp only [bunK, C.at, C.put, List.dropLast, List.isPrefixOf, Nat.reduceMul, Nat.reduceLT, Nat.reduceLeDiff, Nat.reduceBEq, Nat.reduceEqDiff, reduceCtorEq, Nat.reduceAdd, ↓reduceIte]; exact rfl) ?_
   refine dw_nil 5 3 1 (by decide) (by simp only [bunK, C.at, C.put, List.dropLast, List.isPrefixOf, Nat.reduceMul, Nat.reduceLT, Nat.reduceLeDiff, Nat.reduceBEq, Nat.reduceEqDiff, reduceCtorEq, Nat.reduceAdd, ↓reduceIte]) [4, 5, 6, 7] (by simp only [bunK, C.at, C.put, List.dropLast, List.isPrefixOf, Nat.reduceMul, Nat.reduceLT, Nat.reduceLeDiff, Nat.reduceBEq, Nat.reduceEqDiff, reduceCtorEq, Nat.reduceAdd, ↓reduceIte]; exact rfl) ?_
   exact dw_ret (fin_ret Tryz.results8 (.four (.own _ _ _ _ rfl rfl (own1 (owned_ints _ []))) (.own _ _ _ _ rfl rfl (own1 (owned_ints _ []))) (.plain _ _ rfl) (.plain _ _ rfl)) (by decide) rfl)
  ·cases hb
def countUpSt1 : Nat → Stat
 | 0 => ⟨[2], [(2, 1)], [2], [12], [], []⟩
 | 1 => ⟨[1], [], [], [13], [], []⟩
 | 2 => ⟨[], [], [], [14], [], []⟩
 | 3 => ⟨[2], [(2, 1)], [], [15], [], []⟩
 | 4 => ⟨[15], [(2, 1)], [], [16], [], []⟩
 | 5 => ⟨[16], [], [], [17], [], []⟩
 | 6 => ⟨[14, 17], [], [14], [18], [], []⟩
 | 7 => ⟨[12, 13, 18], [], [2, 18], [19], [], []⟩
 | 8 => ⟨[19], [], [], [11], [], [(19, 1), (19, 2), (19, 3), (19, 4)]⟩
 | 9 => ⟨[11], [], [], [20], [], [(11, 1)]⟩
 | 10 => ⟨[11], [], [], [21], [], [(11, 2)]⟩
 | 11 => ⟨[11], [], [], [22], [], [(11, 3)]⟩
 | 12 => ⟨[11], [], [], [23], [], [(11, 4)]⟩
 | 13 => ⟨[20], [], [20], [7], [(20, 1)], []⟩
 | 14 => ⟨[21], [], [], [8], [], []⟩
 | 15 => ⟨[22], [], [], [9], [], []⟩
 | 16 => ⟨[23], [], [], [10], [], []⟩
 | _ => ⟨[], [], [], [], [], []⟩
def countUpSt4 : Nat → Stat
 | 0 => ⟨[2], [(2, 1)], [], [26], [], []⟩
 | 1 => ⟨[26], [(2, 1)], [], [27], [], []⟩
 | 2 => ⟨[27], [], [], [28], [], []⟩
 | 3 => ⟨[9], [], [], [29], [], []⟩
 | 4 => ⟨[2], [(2, 1)], [], [30], [], []⟩
 | 5 => ⟨[30], [(2, 1)], [], [31], [], []⟩
 | 6 => ⟨[31], [], [], [32], [], []⟩
 | 7 => ⟨[32], [], [], [33], [], []⟩
 | 8 => ⟨[29, 33], [], [], [34], [], []⟩
 | 9 => ⟨[28], [], [], [4], [], []⟩
 | 10 => ⟨[34], [], [], [5], [], []⟩
 | 11 => ⟨[], [], [], [6], [], []⟩
 | _ => ⟨[], [], [], [], [], []⟩
set_option maxRecDepth 8000 in
set_option maxHeartbeats 0 in
theorem CountUp_d (f : NF) (N : Net) (o : Bool) (t : TypeId) (ps : List Int) {s : List Int} {h b : Int} (hi : N.ids.length ≤ 2097152) (hl : N.ends.length ≤ 1000) (hb0 : 0 ≤ b) (hb1 : b ≤ 1000000) (hr : SumRs N ps (List.replicate N.ends.length 1) s h b true) :
 DCalls Tryz.prog 13 [.agg (netC f N), .c (.sl o t 1 (ps.map iC))] (fun q => q = [.c (.p (.int .i64 N.ends.length)), .c (.p (.int .i64 (b - ((N.ends.length : Int) - 1)))), .c (.p (.bool true))]) := by -- params impl.Network, []int
 refine dcalls_of Tryz.func13 rfl (by rw [Tryz.ntmps13]; simp) fun w0 => ?_
 rw [Tryz.ntmps13]
 have dfx := dfxDwz
 simp only [initE, argsL, Arg.av, netC, endss, ints, ends]
 refine dw_seq (dwR fun K hK => ?_)
 repeat refine evF ?_
 refine aops_end (hK _ (dwK [1, 2] ?_))
 clear hK K
 refine dw_seq (dwRD countUpSt1 (fun j r => match j with | 6 => r = [.own false [.sl true 3 1 ((List.replicate N.ends.length 1).map iC)]] | 7 => r = [.own false [.sl true 3 1 (s.map iC)], .c (.p (.int .i64 h)), .c (.p (.int .i64 b)), .c (.p (.bool true))] | _ => True) fun K hK => ?_)
 repeat (apply dops_ev; (focus exact rfl); (focus simp (disch := first | omega | (intros; contradiction)) only [bunK, bunX, bunS, C.at, C.put, List.dropLast, List.isPrefixOf, Nat.reduceMul, Nat.reduceLT, Nat.reduceLeDiff, Nat.reduceBEq, Nat.reduceEqDiff, reduceCtorEq, Nat.reduceAdd, ↓reduceIte, tab27, tab25, tab3, tab24, tab67, if_pos, rowi, tab69, getDe, getDp, getDi, toNat0, toNat1 , countUpSt1, may40, may16]); (focus (simp (disch := first | omega | (intros; contradiction)) only [bunK, bunX, C.at, C.put, List.dropLast, List.isPrefixOf, Nat.reduceMul, Nat.reduceLT, Nat.reduceLeDiff, Nat.reduceBEq, Nat.reduceEqDiff, reduceCtorEq, Nat.reduceAdd, ↓reduceIte, tab27, tab25, tab3, tab24, tab67, if_pos, rowi, tab69, getDe, getDp, getDi, toNat0, toNat1 , countUpSt1, may40, may16]; exact rfl)))
 refine dops_call rfl ⟨rfl, _, rfl⟩ (by omega) (by first | exact may40 | exact may16) (by simp only [bunK, bunX, bunS, C.at, C.put, List.dropLast, List.isPrefixOf, Nat.reduceMul, Nat.reduceLT, Nat.reduceLeDiff, Nat.reduceBEq, Nat.reduceEqDiff, reduceCtorEq, Nat.reduceAdd, ↓reduceIte, tab27, tab25, tab3, tab24, tab67, if_pos, rowi, tab69, getDe, getDp, getDi, toNat0, toNat1 , countUpSt1, may40, may16]) (by simp only [bunK, bunX, bunS, C.at, C.put, List.dropLast, List.isPrefixOf, Nat.reduceMul, Nat.reduceLT, Nat.reduceLeDiff, Nat.reduceBEq, Nat.reduceEqDiff, reduceCtorEq, Nat.reduceAdd, ↓reduceIte, tab27, tab25, tab3, tab24, tab67, if_pos, rowi, tab69, getDe, getDp, getDi, toNat0, toNat1 , countUpSt1, may40, may16]) (by simp only [bunK, bunX, bunS, C.at, C.put, List.dropLast, List.isPrefixOf, Nat.reduceMul, Nat.reduceLT, Nat.reduceLeDiff, Nat.reduceBEq, Nat.reduceEqDiff, reduceCtorEq, Nat.reduceAdd, ↓reduceIte, tab27, tab25, tab3, tab24, tab67, if_pos, rowi, tab69, getDe, getDp, getDi, toNat0, toNat1 , countUpSt1, may40, may16]) (by simp (disch := first | omega | (intros; contradiction)) only [bunK, bunX, C.at, C.put, List.dropLast, List.isPrefixOf, Nat.reduceMul, Nat.reduceLT, Nat.reduceLeDiff, Nat.reduceBEq, Nat.reduceEqDiff, reduceCtorEq, Nat.reduceAdd, ↓reduceIte, tab27, tab25, tab3, tab24, tab67, if_pos, rowi, tab69, getDe, getDp, getDi, toNat0, toNat1 , countUpSt1, may40, may16] <;> exact rfl) (Repeat_d true 3 1 N.ends.length (by omega)) rfl ⟨_, rfl⟩ ?_
 rintro _ rfl
 repeat (apply dops_ev; (focus exact rfl); (focus simp (disch := first | omega | (intros; contradiction)) only [bunK, bunX, bunS, C.at, C.put, List.dropLast, List.isPrefixOf, Nat.reduceMul, Nat.reduceLT, Nat.reduceLeDiff, Nat.reduceBEq, Nat.reduceEqDiff, reduceCtorEq, Nat.reduceAdd, ↓reduceIte, tab27, tab25, tab3, tab24, tab67, if_pos, rowi, tab69, getDe, getDp, getDi, toNat0, toNat1 , countUpSt1, may40, may16]); (focus (simp (disch := first | omega | (intros; contradiction)) only [bunK, bunX, C.at, C.put, List.dropLast, List.isPrefixOf, Nat.reduceMul, Nat.reduceLT, Nat.reduceLeDiff, Nat.reduceBEq, Nat.reduceEqDiff, reduceCtorEq, Nat.reduceAdd, ↓reduceIte, tab27, tab25, tab3, tab24, tab67, if_pos, rowi, tab69, getDe, getDp, getDi, toNat0, toNat1 , countUpSt1, may40, may16]; exact rfl)))
 refine dops_call rfl ⟨rfl, _, rfl⟩ (by omega) (by first | exact may40 | exact may16) (by simp only [bunK, bunX, bunS, C.at, C.put, List.dropLast, List.isPrefixOf, Nat.reduceMul, Nat.reduceLT, Nat.reduceLeDiff, Nat.reduceBEq, Nat.reduceEqDiff, reduceCtorEq, Nat.reduceAdd, ↓reduceIte, tab27, tab25, tab3, tab24, tab67, if_pos, rowi, tab69, getDe, getDp, getDi, toNat0, toNat1 , countUpSt1, may40, may16]) (by simp only [bunK, bunX, bunS, C.at, C.put, List.dropLast, List.isPrefixOf, Nat.reduceMul, Nat.reduceLT, Nat.reduceLeDiff, Nat.reduceBEq, Nat.reduceEqDiff, reduceCtorEq, Nat.reduceAdd, ↓reduceIte, tab27, tab25, tab3, tab24, tab67, if_pos, rowi, tab69, getDe, getDp, getDi, toNat0, toNat1 , countUpSt1, may40, may16]) (by simp only [bunK, bunX, bunS, C.at, C.put, List.dropLast, List.isPrefixOf, Nat.reduceMul, Nat.reduceLT, Nat.reduceLeDiff, Nat.reduceBEq, Nat.reduceEqDiff, reduceCtorEq, Nat.reduceAdd, ↓reduceIte, tab27, tab25, tab3, tab24, tab67, if_pos, rowi, tab69, getDe, getDp, getDi, toNat0, toNat1 , countUpSt1, may40, may16]) (by simp (disch := first | omega | (intros; contradiction)) only [bunK, bunX, C.at, C.put, List.dropLast, List.isPrefixOf, Nat.reduceMul, Nat.reduceLT, Nat.reduceLeDiff, Nat.reduceBEq, Nat.reduceEqDiff, reduceCtorEq, Nat.reduceAdd, ↓reduceIte, tab27, tab25, tab3, tab24, tab67, if_pos, rowi, tab69, getDe, getDp, getDi, toNat0, toNat1 , countUpSt1, may40, may16] <;> exact rfl) (implSumUp_d ⟨false, f.t1, f.o2, f.t2, false, f.t3, false, f.t4⟩ N o t ps true 3 (List.replicate N.ends.length 1) hi (by simp; omega) hr) rfl ⟨_, rfl⟩ ?_
 rintro _ rfl
 repeat (apply dops_ev; (focus exact rfl); (focus simp (disch := first | omega | (intros; contradiction)) only [bunK, bunX, bunS, C.at, C.put, List.dropLast, List.isPrefixOf, Nat.reduceMul, Nat.reduceLT, Nat.reduceLeDiff, Nat.reduceBEq, Nat.reduceEqDiff, reduceCtorEq, Nat.reduceAdd, ↓reduceIte, tab27, tab25, tab3, tab24, tab67, if_pos, rowi, tab69, getDe, getDp, getDi, toNat0, toNat1 , countUpSt1, may40, may16]); (focus (simp (disch := first | omega | (intros; contradiction)) only [bunK, bunX, C.at, C.put, List.dropLast, List.isPrefixOf, Nat.reduceMul, Nat.reduceLT, Nat.reduceLeDiff, Nat.reduceBEq, Nat.reduceEqDiff, reduceCtorEq, Nat.reduceAdd, ↓reduceIte, tab27, tab25, tab3, tab24, tab67, if_pos, rowi, tab69, getDe, getDp, getDi, toNat0, toNat1 , countUpSt1, may40, may16]; exact rfl)))
 refine dops_end (hK _ (dwK [2, 9, 10] ?_))
 clear hK K
 refine dw_seq ?_
 refine dw_seq (dwR fun K hK => ?_)
 repeat refine evF ?_
 refine aops_end (hK _ (dwK [2, 9, 25] ?_))
 clear hK K
 refine dwI (fun hb => ?_) (fun hb => ?_)
 ·cases hb
 ·refine dw_skip ?_
  show DW _ _ _ _ _
  have dfx := And.intro dfx (@countUpSt4.eq_def)
  refine dw_seq (dwRD countUpSt4 (fun j r => True) fun K hK => ?_)
  repeat refine dvF ?_
  refine dops_end (hK _ (dwK [4, 5, 6] ?_))
  clear hK K
  exact dw_ret (fin_ret Tryz.results13 (.three (.plain _ _ rfl) (.plain _ _ rfl) (.plain _ _ rfl)) (by decide) rfl)
end
section
def sf (n : Nat) (pa : Nat → Nat) (r : Nat) (vals : List Int) : Nat → Nat → Int
 | 0, v => gi vals v
 | k + 1, v => gi vals v + sumTo n fun u => if u ≠ r ∧ pa u = v then sf n pa r vals k u else 0
theorem sf_stable {n : Nat} {pa : Nat → Nat} {r : Nat} {vals ds : List Int} {H : Nat} (hH : ∀ u, u < n → gi ds u ≤ H) (hp : ∀ u, u < n → u ≠ r → gi ds u = gi ds (pa u) + 1) :
 ∀ (k v : Nat), v < n → (H : Int) < k + gi ds v → sf n pa r vals (k + 1) v = sf n pa r vals k v
 | 0, v, hv, h => by have := hH v hv; simp at h; omega
 | k + 1, v, hv, h => by
  rw [sf, sf]
  congr 1
  refine sumTo_congr n fun u hu => ?_
  by_cases e : u ≠ r ∧ pa u = v
  ·rw [if_pos e, if_pos e]
   refine sf_stable hH hp k u hu ?_
   have := hp u hu e.1
   rw [e.2] at this
   push_cast at h
   omega
  ·rw [if_neg e, if_neg e]
theorem tree_sums {N : Net} {ps : List Int} {r : Nat} {ds vals : List Int} (hg : goodB N = true) (t : TreeAt N ps r ds) : ∃ s h b, SumIs N ps vals s h b := by
 have hn := good_len hg
 have hl := t.1
 have hH : ∀ u, u < ps.length → gi ds u ≤ (ps.length : Nat) := fun u hu => (t.zero hu).2.2
 have hst := fun v (hv : v < ps.length) => sf_stable (vals := vals) (pa := par N ps) (r := r) hH (fun u hu hne => (t.par hg hu hne).2.1) (ps.length + 1) v hv (by have := (t.zero hv).2.1; push_cast; omega)
 refine ⟨tab ps.length (sf ps.length (par N ps) r vals (ps.length + 1)), Lib.maxOf ds, _, r, ds, t, ⟨tab_len _ _, fun v hv => ?_⟩, maxOf_is ds (by rw [t.2.2.2.2.1]; omega), rfl⟩
 rw [gi_tab hv, ← hst v hv, sf]
 congr 1
 refine sumTo_congr _ fun u hu => ?_
 by_cases e : u ≠ r ∧ par N ps u = v
 ·rw [if_pos e, if_pos e, gi_tab hu]
 ·rw [if_neg e, if_neg e]
theorem sumRs_ex (N : Net) (ps vals : List Int) : ∃ s h b ok, SumRs N ps vals s h b ok := by
 by_cases h : SumOk N ps vals
 ·obtain ⟨r, ds, t⟩ := h.2.1
  obtain ⟨s, h', b, hs⟩ := tree_sums (vals := vals) h.1 t
  exact ⟨s, h', b, true, .inl ⟨h, hs, rfl⟩⟩
 ·exact ⟨[], 0, 0, false, .inr ⟨h, rfl, rfl, rfl, rfl⟩⟩
def mxI (ds : List Int) : Nat → Int
 | 0 => 0
 | k + 1 => if mxI ds k < gi ds k then gi ds k else mxI ds k
theorem mxI_spec (ds : List Int) : ∀ k : Nat, 0 ≤ mxI ds k ∧ (∀ j, j < k → gi ds j ≤ mxI ds k) ∧ (mxI ds k = 0 ∨ ∃ j, j < k ∧ mxI ds k = gi ds j)
 | 0 => ⟨Int.le_refl 0, fun j hj => by omega, .inl rfl⟩
 | k + 1 => by
  obtain ⟨h1, h2, h3⟩ := mxI_spec ds k
  rw [mxI]
  by_cases h : mxI ds k < gi ds k
  ·rw [if_pos h]
   refine ⟨by omega, fun j hj => ?_, .inr ⟨k, by omega, rfl⟩⟩
   rcases Nat.lt_or_ge j k with e | e
   ·have := h2 j e; omega
   ·obtain rfl : j = k := by omega
    exact Int.le_refl _
  ·rw [if_neg h]
   refine ⟨h1, fun j hj => ?_, h3.imp id fun ⟨j, hj, e⟩ => ⟨j, by omega, e⟩⟩
   rcases Nat.lt_or_ge j k with e | e
   ·exact h2 j e
   ·obtain rfl : j = k := by omega
    omega
theorem mxI_max {ds : List Int} {h : Int} (hm : IsMax ds h) (h0 : ∀ j, j < ds.length → 0 ≤ gi ds j) : mxI ds ds.length = h := by
 obtain ⟨h1, h2, h3⟩ := mxI_spec ds ds.length
 obtain ⟨m1, j, hj, e⟩ := hm
 have := h2 j hj
 rcases h3 with h3 | ⟨i, hi, h3⟩
 ·have := h0 j hj; omega
 ·have := m1 i hi; omega
theorem sumTo_bnd {f : Nat → Int} {c : Nat} : ∀ n : Nat, (∀ i, i < n → -(c : Int) ≤ f i ∧ f i ≤ c) → -((n * c : Nat) : Int) ≤ sumTo n f ∧ sumTo n f ≤ ((n * c : Nat) : Int)
 | 0, _ => by simp [sumTo]
 | n + 1, h => by
  have h1 := sumTo_bnd n fun i hi => h i (by omega)
  have h2 := h n (by omega)
  rw [sumTo, Nat.add_mul, Nat.one_mul]
  push_cast at h1 ⊢
  omega
end
end Go.Proofs.YtlaahgdikiiahaaGreat
