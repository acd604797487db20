/- Parts of the proof, joined: Dme, Dme3, Dme4, Dme5, Dme6, Dme7, Dms. -/
import Derived.Test.YtdiiggpohcjppaaGreatCJn43
import Derived.Test.YtdiiggpohcjppaaGreatCJn32
import Derived.Test.YtdiiggpohcjppaaGreatCMtr2
import Derived.Test.YtdiiggpohcjppaaGreatCJn27
import Derived.Test.YtdiiggpohcjppaaGreatCDmm
set_option linter.unusedSimpArgs false
set_option linter.unusedVariables false
namespace Go.Proofs.YtdiiggpohcjppaaGreat
section
open Go Go.RowKit
theorem good_all {N : Net} (hg : goodB N = true) : Sym N.ends ∧ (1 ≤ N.ends.length ∧ N.ends.length ≤ 40) ∧ N.ids.length ≤ 2097152 ∧ ∀ a, (gl N.ends a).length ≤ 1000 := by
 have hn := good_len hg
 refine ⟨(goodB_fine hg).sym, hn, by have := good_ids hg; omega, fun a => ?_⟩
 rcases Nat.lt_or_ge a N.ends.length with h | h
 ·have := good_deg hg h; omega
 ·have : gl N.ends a = [] := by unfold gl; rw [List.getD_eq_getElem?_getD, List.getElem?_eq_none h]; rfl
  rw [this]; simp
theorem dfxDme : type_of% (And.intro tab27 (And.intro tab25 (And.intro tab3 (And.intro tab24 (And.intro tab82 (And.intro @if_pos.{1} (And.intro @rowi (And.intro tab35 (And.intro @getDe (And.intro @getDp (And.intro @getDi (And.intro @toNat0 (And.intro @toNat1 @trivial))))))))))))) := And.intro tab27 (And.intro tab25 (And.intro tab3 (And.intro tab24 (And.intro tab82 (And.intro @if_pos.{1} (And.intro @rowi (And.intro tab35 (And.intro @getDe (And.intro @getDp (And.intro @getDi (And.intro @toNat0 (And.intro @toNat1 @trivial))))))))))))
set_option maxRecDepth 8000 in
set_option maxHeartbeats 0 in
theorem NeighboursOf_d (f : NF) (N : Net) (v : Nat) (hg : goodB N = true) (hv : v < N.ends.length) : DCalls Tryz.prog 17 [.agg (netC f N), .c (.p (.int .i64 v))] (fun r => r = [.own false [.sl true 3 1 ((nearL N v (gl N.ends v).length).map iC)], .c (.p (.bool true))]) := by
 obtain ⟨hs, hn, hids, hdg⟩ := good_all hg
 have hin : inB (v : Int) 0 ((N.ends.length : Int) - 1) = true := inB_iff.2 (by omega)
 have hd := hdg v
 refine dcalls_of Tryz.func17 rfl (by rw [Tryz.ntmps17]; simp) fun w0 => ?_
 rw [Tryz.ntmps17]
 have dfx := dfxDme
 simp only [initE, argsL, Arg.av, netC, endss, ints, ends]
 refine dw_seq (dwR fun K hK => ?_)
 repeat refine evF ?_
 refine aops_end (hK _ (dwK [1, 2] ?_))
 clear hK K
 refine dw_seq ?_
 refine dw_seq (dwR fun K hK => ?_)
 repeat refine evF ?_
 refine clF rfl ⟨rfl, _, rfl⟩ (by omega) (by first | exact may55 | exact may56) (IsNetwork_d ⟨false, f.t1, f.o2, f.t2, false, f.t3, false, f.t4⟩ N hids) ?_
 rintro _ rfl
 repeat refine evF ?_
 have dfx := And.intro dfx (@hg)
 repeat refine evF ?_
 refine cgF rfl rfl ⟨rfl, _, rfl⟩ (by omega) (by first | exact may55 | exact may56) (hasNode_d ⟨false, f.t1, f.o2, f.t2, false, f.t3, false, f.t4⟩ N v (by omega)) ?_
 rintro _ rfl
 repeat refine evF ?_
 have dfx := And.intro dfx (@hin)
 repeat refine evF ?_
 have dfk := And.intro @hin @hg
 refine aops_end (hK _ (dwKF [1, 2, 17] ?_))
 clear hK K
 refine dwI (fun hb => ?_) (fun hb => ?_)
 ·cases hb
 ·refine dw_skip ?_
  show DW _ _ _ _ _
  refine dw_seq (dwR fun K hK => ?_)
  repeat refine evF ?_
  refine aops_end (hK _ (dwK [1, 2, 6] ?_))
  clear hK K
  refine dw_seq ?_
  refine dw_seq (dwR fun K hK => ?_)
  repeat refine evF ?_
  refine aops_end (hK _ (dwK [6, 22, 23, 24] ?_))
  clear hK K
  refine dw_block ?_
  refine dw_nil 6 3 1 (by decide) (by simp only [bunK, C.at, C.put, List.dropLast, List.isPrefixOf, Nat.reduceMul, Nat.reduceLT, Nat.reduceLeDiff, Nat.reduceBEq, Nat.reduceEqDiff, reduceCtorEq, Nat.reduceAdd, ↓reduceIte]) [6, 22, 23, 24] (by simp only [bunK, C.at, C.put, List.dropLast, List.isPrefixOf, Nat.reduceMul, Nat.reduceLT, Nat.reduceLeDiff, Nat.reduceBEq, Nat.reduceEqDiff, reduceCtorEq, Nat.reduceAdd, ↓reduceIte]; exact rfl) ?_
  refine dw_loopP (X := Nat) (fun k => k ≤ (gl N.ends v).length) (fun k => [(24, .c (.p (.int .i64 k)))]) (fun k => [((6, 0), ⟨none, [.sl true 3 1 ((nearL N v k).map iC)]⟩)]) (fun k => (gl N.ends v).length - k) 0 (Nat.zero_le _) (by first | rfl | (simp only [bunK, C.at, C.put, List.dropLast, List.isPrefixOf, Nat.reduceMul, Nat.reduceLT, Nat.reduceLeDiff, Nat.reduceBEq, Nat.reduceEqDiff, reduceCtorEq, Nat.reduceAdd, ↓reduceIte, Int.natCast_zero] <;> rfl)) ?_
  rintro k hk
  intro E hE
  simp only [bunK, C.at, C.put, List.dropLast, List.isPrefixOf, Nat.reduceMul, Nat.reduceLT, Nat.reduceLeDiff, Nat.reduceBEq, Nat.reduceEqDiff, reduceCtorEq, Nat.reduceAdd, ↓reduceIte] at hE
  subst hE
  have hnl := near_len hk
  refine dw_seq (dwR fun K hK => ?_)
  repeat refine evF ?_
  refine aops_end (hK _ (dwK [6, 22, 23, 24, 25] ?_))
  clear hK K
  refine dw_seq (dwI (fun hb => ?_) (fun hb => ?_))
  ·have hk1 : k < (gl N.ends v).length := by simpa using hb
   have hns := near_succ hk1
   refine dw_skip ?_
   show DW _ _ _ _ _
   refine dw_seq (dw_block ?_)
   refine dw_seq (dwR fun K hK => ?_)
   repeat refine evF ?_
   refine aops_end (hK _ (dwK [6, 8, 22, 23, 24] ?_))
   clear hK K
   refine dwR fun K hK => ?_
   repeat refine evF ?_
   have dfk := @snoc_iC
   refine aops_end (hK _ (dwKF [6, 22, 23, 24] ?_))
   clear hK K
   refine dwR fun K hK => ?_
   repeat refine evF ?_
   have dfk := And.intro @castS @hns
   refine aops_end (hK _ ?_)
   clear hK K
   show ∃ x, _ ∧ _ ∧ Weak _ _
   refine ⟨k + 1, ?_, ?_, weakFk [6, 22, 23, 24]⟩
   ·omega
   ·omega
  ·have hk2 : k = (gl N.ends v).length := by
    have : ¬ k < (gl N.ends v).length := by simpa using hb
    omega
   refine dw_leave3 ?_
   refine dwK [6] ?_
   refine dw_seq (dwR fun K hK => ?_)
   repeat refine evF ?_
   refine aops_end (hK _ (dwK [4, 5] ?_))
   clear hK K
   exact dw_ret (fin_ret Tryz.results17 (.two (.own _ _ _ _ rfl rfl (own1 (owned_ints _ _))) (.plain _ _ rfl)) (by decide) (by rw [hk2]))
set_option maxRecDepth 8000 in
set_option maxHeartbeats 0 in
theorem BallOf_d (f : NF) (N : Net) (v r : Nat) (hg : goodB N = true) (hv : v < N.ends.length) (hr : r ≤ 40) : DCalls Tryz.prog 16 [.agg (netC f N), .c (.p (.int .i64 v)), .c (.p (.int .i64 r))] (fun rr => rr = [.own false [.sl true 3 1 ((pickT (fun j => inB (gi (dists N v) j) 0 r) N.ends.length).map iC)], .c (.p (.bool true))]) := by
 obtain ⟨hs, hn, hids, hdg⟩ := good_all hg
 have hin : inB (v : Int) 0 ((N.ends.length : Int) - 1) = true := inB_iff.2 (by omega)
 have hrn : inB (r : Int) 0 40 = true := inB_iff.2 (by omega)
 have hdl := (dists_is hs hv).len
 refine dcalls_of Tryz.func16 rfl (by rw [Tryz.ntmps16]; simp) fun w0 => ?_
 rw [Tryz.ntmps16]
 have dfx := dfxDme
 simp only [initE, argsL, Arg.av, netC, endss, ints, ends]
 refine dw_seq (dwR fun K hK => ?_)
 repeat refine evF ?_
 refine aops_end (hK _ (dwK [1, 2, 3] ?_))
 clear hK K
 refine dw_seq ?_
 refine dw_seq (dwR fun K hK => ?_)
 repeat refine evF ?_
 refine clF rfl ⟨rfl, _, rfl⟩ (by omega) (by first | exact may55 | exact may56 | exact may65) (IsNetwork_d ⟨false, f.t1, f.o2, f.t2, false, f.t3, false, f.t4⟩ N hids) ?_
 rintro _ rfl
 repeat refine evF ?_
 have dfx := And.intro dfx (@hg)
 repeat refine evF ?_
 refine cgF rfl rfl ⟨rfl, _, rfl⟩ (by omega) (by first | exact may55 | exact may56 | exact may65) (hasNode_d ⟨false, f.t1, f.o2, f.t2, false, f.t3, false, f.t4⟩ N v (by omega)) ?_
 rintro _ rfl
 repeat refine evF ?_
 have dfx := And.intro dfx (@hin)
 repeat refine evF ?_
 refine cgF rfl rfl ⟨rfl, _, rfl⟩ (by omega) (by first | exact may55 | exact may56 | exact may65) (within_d r 0 40) ?_
 rintro _ rfl
 repeat refine evF ?_
 have dfx := And.intro dfx (@hrn)
 repeat refine evF ?_
 have dfk := And.intro @hin (And.intro @hg @hrn)
 refine aops_end (hK _ (dwKF [1, 2, 3, 24] ?_))
 clear hK K
 refine dwI (fun hb => ?_) (fun hb => ?_)
 ·cases hb
 ·refine dw_skip ?_
  show DW _ _ _ _ _
  refine dw_seq (dwR fun K hK => ?_)
  repeat refine evF ?_
  refine aops_end (hK _ (dwK [1, 2, 3, 8] ?_))
  clear hK K
  refine dw_seq ?_
  refine dw_seq (dwR fun K hK => ?_)
  repeat refine evF ?_
  refine clF rfl ⟨rfl, _, rfl⟩ (by omega) (by first | exact may57) (distancesFrom_d ⟨false, f.t1, f.o2, f.t2, false, f.t3, false, f.t4⟩ N v hs hv (by omega) hdg) ?_
  rintro _ rfl
  repeat refine evF ?_
  refine aops_end (hK _ (dwK [2, 8, 27, 28, 29] ?_))
  clear hK K
  refine dw_block ?_
  refine dw_nil 8 3 1 (by decide) (by simp only [bunK, C.at, C.put, List.dropLast, List.isPrefixOf, Nat.reduceMul, Nat.reduceLT, Nat.reduceLeDiff, Nat.reduceBEq, Nat.reduceEqDiff, reduceCtorEq, Nat.reduceAdd, ↓reduceIte]) [2, 8, 27, 28, 29] (by simp only [bunK, C.at, C.put, List.dropLast, List.isPrefixOf, Nat.reduceMul, Nat.reduceLT, Nat.reduceLeDiff, Nat.reduceBEq, Nat.reduceEqDiff, reduceCtorEq, Nat.reduceAdd, ↓reduceIte]; exact rfl) ?_
  refine dw_loopP (X := Nat) (fun k => k ≤ N.ends.length) (fun k => [(29, .c (.p (.int .i64 k)))]) (fun k => [((8, 0), ⟨none, [.sl true 3 1 ((pickT (fun j => inB (gi (dists N v) j) 0 r) k).map iC)]⟩)]) (fun k => N.ends.length - k) 0 (Nat.zero_le _) (by first | rfl | (simp only [bunK, C.at, C.put, List.dropLast, List.isPrefixOf, Nat.reduceMul, Nat.reduceLT, Nat.reduceLeDiff, Nat.reduceBEq, Nat.reduceEqDiff, reduceCtorEq, Nat.reduceAdd, ↓reduceIte, Int.natCast_zero] <;> rfl)) ?_
  rintro k hk
  intro E hE
  simp only [bunK, C.at, C.put, List.dropLast, List.isPrefixOf, Nat.reduceMul, Nat.reduceLT, Nat.reduceLeDiff, Nat.reduceBEq, Nat.reduceEqDiff, reduceCtorEq, Nat.reduceAdd, ↓reduceIte] at hE
  subst hE
  refine dw_seq (dwR fun K hK => ?_)
  repeat refine evF ?_
  refine aops_end (hK _ (dwK [2, 8, 27, 28, 29, 30] ?_))
  clear hK K
  refine dw_seq (dwI (fun hb => ?_) (fun hb => ?_))
  ·have hkl : k < N.ends.length := by
    have : k < (dists N v).length := by simpa using hb
    omega
   have hkd : k < (dists N v).length := by omega
   refine dw_skip ?_
   show DW _ _ _ _ _
   refine dw_join (X := Unit) (fun _u => True) (fun _u => mkE 43 [(2, .c (.p (.int .i64 r))), (8, .own false 1), (27, .own false 1), (28, .c (.p (.int .i64 ((dists N v).length : Int)))), (29, .c (.p (.int .i64 k)))] [((8, 0), ⟨none, [.sl true 3 1 ((pickT (fun j => inB (gi (dists N v) j) 0 r) (k + 1)).map iC)]⟩), ((27, 0), ⟨none, [.sl true 3 1 ((dists N v).map iC)]⟩)]) ?_ ?_
   ·refine dw_block ?_
    refine dw_seq (dwR fun K hK => ?_)
    repeat refine evF ?_
    refine aops_end (hK _ (dwK [2, 8, 9, 10, 27, 28, 29] ?_))
    clear hK K
    refine dw_seq (dwR fun K hK => ?_)
    repeat refine evF ?_
    refine clF rfl ⟨rfl, _, rfl⟩ (by omega) (by first | exact may65) (within_d (gi (dists N v) k) 0 r) ?_
    rintro _ rfl
    repeat refine evF ?_
    refine aops_end (hK _ (dwK [2, 8, 9, 27, 28, 29, 36] ?_))
    clear hK K
    refine dwI (fun hb => ?_) (fun hb => ?_)
    ·have hns := pickT_yes (p := fun j => inB (gi (dists N v) j) 0 r) (k := k) hb
     have hpl := pickT_le (fun j => inB (gi (dists N v) j) 0 r) k
     refine dwR fun K hK => ?_
     repeat refine evF ?_
     refine aops_end (hK _ ?_)
     clear hK K
     show ∃ x, _ ∧ Weak _ _
     refine ⟨(), ?_, (weak_keep _ [2, 8, 27, 28, 29]).trans (Weak.of_eq (by simp only [bunK, C.at, C.put, List.dropLast, List.isPrefixOf, Nat.reduceMul, Nat.reduceLT, Nat.reduceLeDiff, Nat.reduceBEq, Nat.reduceEqDiff, reduceCtorEq, Nat.reduceAdd, ↓reduceIte , snoc_iC, hns] <;> exact rfl))⟩
     trivial
    ·have hns := pickT_no (p := fun j => inB (gi (dists N v) j) 0 r) (k := k) hb
     refine dw_skip ?_
     show ∃ x, _ ∧ Weak _ _
     refine ⟨(), ?_, (weak_keep _ [2, 8, 27, 28, 29]).trans (Weak.of_eq (by simp only [bunK, C.at, C.put, List.dropLast, List.isPrefixOf, Nat.reduceMul, Nat.reduceLT, Nat.reduceLeDiff, Nat.reduceBEq, Nat.reduceEqDiff, reduceCtorEq, Nat.reduceAdd, ↓reduceIte , hns] <;> exact rfl))⟩
     trivial
   ·rintro _ _
    refine dwR fun K hK => ?_
    repeat refine evF ?_
    have dfk := @castS
    refine aops_end (hK _ ?_)
    clear hK K
    show ∃ x, _ ∧ _ ∧ Weak _ _
    refine ⟨k + 1, ?_, ?_, weakFk [2, 8, 27, 28, 29]⟩
    ·omega
    ·omega
  ·have hk2 : k = N.ends.length := by
    have : ¬ k < (dists N v).length := by simpa using hb
    omega
   refine dw_leave3 ?_
   refine dwK [8] ?_
   refine dw_seq (dwR fun K hK => ?_)
   repeat refine evF ?_
   refine aops_end (hK _ (dwK [6, 7] ?_))
   clear hK K
   exact dw_ret (fin_ret Tryz.results16 (.two (.own _ _ _ _ rfl rfl (own1 (owned_ints _ _))) (.plain _ _ rfl)) (by decide) (by rw [hk2]))
end
section
open Go Go.RowKit
theorem mayMin : callOk Tryz.prog 74 = true := by kernel_rfl
theorem Min_d (o : Bool) (tt : TypeId) (xs : List Int) (hp : 0 < xs.length) : DCalls Tryz.prog 74 [.c (ints o tt xs)] (fun r => r = [.c (.p (.int .i64 (Lib.minOf xs)))]) := dcalls_v fun w vs h1 h2 => by
 obtain ⟨u, rfl, g1⟩ := args1 h1 h2
 have h := RO_ints g1
 have hb := h.bound
 obtain ⟨A, c, rfl, hnc, hm, hx⟩ := h
 obtain ⟨b, off, rfl, -, hc⟩ := hx hp
 refine (Tryz.slices_Min_int b off xs.length c xs w hp (Nat.le_refl _) hb hc).mono ?_
 rintro e w1 ⟨rfl, rfl⟩
 exact ⟨by rw [List.take_length], Below.refl _ _⟩
noncomputable def eccT (N : Net) (k : Nat) : List Int := tab k (ecc N)
theorem eccT_succ (N : Net) (k : Nat) : eccT N (k + 1) = eccT N k ++ [ecc N k] := by unfold eccT tab; rw [List.range_succ, List.map_append]; rfl
theorem eccT_len (N : Net) (k : Nat) : (eccT N k).length = k := tab_len _ _
theorem eccs_len (N : Net) : (eccs N).length = N.ends.length := tab_len _ _
theorem eccs_at {N : Net} {k : Nat} (h : k < N.ends.length) : gi (eccs N) k = ecc N k := gi_tab h
theorem dist_maxOf {N : Net} (hs : Sym N.ends) {v : Nat} (hv : v < N.ends.length) : Lib.maxOf (dists N v) = ecc N v := maxOf_mx0 ⟨0, by have := dist_mem hs hv hv; rwa [(dists_is hs hv).root] at this, Int.le_refl 0⟩
theorem eccs_in {N : Net} {k : Nat} (h : k < N.ends.length) : ecc N k ∈ eccs N := by
 have h2 : k < (eccs N).length := by rw [eccs_len]; exact h
 have := List.getElem_mem h2
 rwa [← gi_lt h2, eccs_at h] at this
theorem eccs_max {N : Net} (hs : Sym N.ends) (hn : 1 ≤ N.ends.length) : Lib.maxOf (eccs N) = mx0 (eccs N) := maxOf_mx0 ⟨ecc N 0, eccs_in (by omega), (ecc_bnd hs (by omega)).1⟩
theorem eccs_min {N : Net} (hs : Sym N.ends) (hn : 1 ≤ N.ends.length ∧ N.ends.length ≤ 40) : Lib.minOf (eccs N) = mn0 (eccs N) := minOf_mn0 ⟨ecc N 0, eccs_in (by omega), by have := (ecc_bnd hs (show 0 < N.ends.length by omega)).2; omega⟩
noncomputable def conB (N : Net) : Bool := goodB N && connB N 0
theorem dfxDme3 : type_of% (And.intro tab27 (And.intro tab25 (And.intro tab3 (And.intro tab24 (And.intro tab82 (And.intro @if_pos.{1} (And.intro @rowi (And.intro tab35 (And.intro @getDe (And.intro @getDp (And.intro @getDi (And.intro @toNat0 (And.intro @toNat1 @trivial))))))))))))) := And.intro tab27 (And.intro tab25 (And.intro tab3 (And.intro tab24 (And.intro tab82 (And.intro @if_pos.{1} (And.intro @rowi (And.intro tab35 (And.intro @getDe (And.intro @getDp (And.intro @getDi (And.intro @toNat0 (And.intro @toNat1 @trivial))))))))))))
set_option maxRecDepth 8000 in
set_option maxHeartbeats 0 in
theorem eccentricities_d (f : NF) (N : Net) (hg : goodB N = true) : DCalls Tryz.prog 70 [.agg (netC f N)] (fun r => r = [.own false [.sl true 3 1 ((eccs N).map iC)]]) := by
 obtain ⟨hs, hn, hids, hdg⟩ := good_all hg
 refine dcalls_of Tryz.func70 rfl (by rw [Tryz.ntmps70]; simp) fun w0 => ?_
 rw [Tryz.ntmps70]
 have dfx := dfxDme3
 simp only [initE, argsL, Arg.av, netC, endss, ints, ends]
 refine dw_seq (dwR fun K hK => ?_)
 repeat refine evF ?_
 refine aops_end (hK _ (dwK [1] ?_))
 clear hK K
 refine dw_seq (dwR fun K hK => ?_)
 repeat refine evF ?_
 refine aops_end (hK _ (dwK [1, 3] ?_))
 clear hK K
 refine dw_seq ?_
 refine dw_seq (dwR fun K hK => ?_)
 repeat refine evF ?_
 refine aops_end (hK _ (dwK [1, 3, 7, 8] ?_))
 clear hK K
 refine dw_block ?_
 refine dw_nil 3 3 1 (by decide) (by simp only [bunK, C.at, C.put, List.dropLast, List.isPrefixOf, Nat.reduceMul, Nat.reduceLT, Nat.reduceLeDiff, Nat.reduceBEq, Nat.reduceEqDiff, reduceCtorEq, Nat.reduceAdd, ↓reduceIte]) [1, 3, 7, 8] (by simp only [bunK, C.at, C.put, List.dropLast, List.isPrefixOf, Nat.reduceMul, Nat.reduceLT, Nat.reduceLeDiff, Nat.reduceBEq, Nat.reduceEqDiff, reduceCtorEq, Nat.reduceAdd, ↓reduceIte]; exact rfl) ?_
 refine dw_loopP (X := Nat) (fun k => k ≤ N.ends.length) (fun k => [(8, .c (.p (.int .i64 k)))]) (fun k => [((3, 0), ⟨none, [.sl true 3 1 ((eccT N k).map iC)]⟩)]) (fun k => N.ends.length - k) 0 (Nat.zero_le _) (by first | rfl | (simp only [bunK, C.at, C.put, List.dropLast, List.isPrefixOf, Nat.reduceMul, Nat.reduceLT, Nat.reduceLeDiff, Nat.reduceBEq, Nat.reduceEqDiff, reduceCtorEq, Nat.reduceAdd, ↓reduceIte, Int.natCast_zero] <;> rfl)) ?_
 rintro k hk
 intro E hE
 simp only [bunK, C.at, C.put, List.dropLast, List.isPrefixOf, Nat.reduceMul, Nat.reduceLT, Nat.reduceLeDiff, Nat.reduceBEq, Nat.reduceEqDiff, reduceCtorEq, Nat.reduceAdd, ↓reduceIte] at hE
 subst hE
 refine dw_seq (dwR fun K hK => ?_)
 repeat refine evF ?_
 refine aops_end (hK _ (dwK [1, 3, 7, 8, 9] ?_))
 clear hK K
 refine dw_seq (dwI (fun hb => ?_) (fun hb => ?_))
 ·have hk1 : k < N.ends.length := by simpa using hb
  have hns := eccT_succ N k
  have hel := eccT_len N k
  have hdl := (dists_is hs hk1).len
  have hmx := dist_maxOf hs hk1
  refine dw_skip ?_
  show DW _ _ _ _ _
  refine dw_seq (dw_block ?_)
  refine dw_seq (dwR fun K hK => ?_)
  repeat refine evF ?_
  refine aops_end (hK _ (dwK [1, 3, 4, 7, 8] ?_))
  clear hK K
  refine dwR fun K hK => ?_
  repeat refine evF ?_
  refine clF rfl ⟨rfl, _, rfl⟩ (by omega) (by first | exact may57 | exact mayMax) (distancesFrom_d ⟨false, f.t1, f.o2, f.t2, false, f.t3, false, f.t4⟩ N k hs hk1 (by omega) hdg) ?_
  rintro _ rfl
  repeat refine evF ?_
  refine clF rfl ⟨rfl, _, rfl⟩ (by omega) (by first | exact may57 | exact mayMax) (Max_d true 3 (dists N k) (by omega)) ?_
  rintro _ rfl
  repeat refine evF ?_
  have dfx := And.intro dfx (@hmx)
  repeat refine evF ?_
  have dfk := And.intro @snoc_iC @hmx
  refine aops_end (hK _ (dwKF [1, 3, 7, 8] ?_))
  clear hK K
  refine dwR fun K hK => ?_
  repeat refine evF ?_
  have dfk := And.intro @castS @hns
  refine aops_end (hK _ ?_)
  clear hK K
  show ∃ x, _ ∧ _ ∧ Weak _ _
  refine ⟨k + 1, ?_, ?_, weakFk [1, 3, 7, 8]⟩
  ·omega
  ·omega
 ·have hk2 : k = N.ends.length := by
   have : ¬ k < N.ends.length := by simpa using hb
   omega
  refine dw_leave3 ?_
  refine dw_keep [3] (by simp only [bunK, C.at, C.put, List.dropLast, List.isPrefixOf, Nat.reduceMul, Nat.reduceLT, Nat.reduceLeDiff, Nat.reduceBEq, Nat.reduceEqDiff, reduceCtorEq, Nat.reduceAdd, ↓reduceIte]; exact rfl) ?_
  refine dw_seq (dwR fun K hK => ?_)
  repeat refine evF ?_
  refine aops_end (hK _ (dwK [2] ?_))
  clear hK K
  exact dw_ret (fin_ret Tryz.results70 (.one (.own _ _ _ _ rfl rfl (own1 (owned_ints _ _)))) (by decide) (by rw [hk2]; rfl))
set_option maxRecDepth 8000 in
set_option maxHeartbeats 0 in
theorem DiameterOf_d (f : NF) (N : Net) (hi : N.ids.length ≤ 2097152) : DCalls Tryz.prog 21 [.agg (netC f N)] (fun r => r = [.c (.p (.int .i64 (if conB N = true then mx0 (eccs N) else 0))), .c (.p (.bool (conB N)))]) := by
 refine dcalls_of Tryz.func21 rfl (by rw [Tryz.ntmps21]; simp) fun w0 => ?_
 rw [Tryz.ntmps21]
 have dfx := dfxDme3
 simp only [initE, argsL, Arg.av, netC, endss, ints, ends]
 refine dw_seq (dwR fun K hK => ?_)
 repeat refine evF ?_
 refine aops_end (hK _ (dwK [1] ?_))
 clear hK K
 refine dw_seq ?_
 refine dw_seq (dwR fun K hK => ?_)
 repeat refine evF ?_
 refine clF rfl ⟨rfl, _, rfl⟩ (by omega) (by first | exact may55 | exact may69) (IsNetwork_d ⟨false, f.t1, f.o2, f.t2, false, f.t3, false, f.t4⟩ N hi) ?_
 rintro _ rfl
 repeat refine evF ?_
 obtain hg | hg := Bool.eq_false_or_eq_true (goodB N)
 ·obtain ⟨hs, hn, -, hdg⟩ := good_all hg
  have dfx := And.intro dfx (@hg)
  repeat refine evF ?_
  refine cgF rfl rfl ⟨rfl, _, rfl⟩ (by omega) (by first | exact may55 | exact may69) (isConnected_d ⟨false, f.t1, f.o2, f.t2, false, f.t3, false, f.t4⟩ N hg (a := 0) (by omega)) ?_
  rintro _ rfl
  repeat refine evF ?_
  obtain hc | hc := Bool.eq_false_or_eq_true (connB N 0)
  ·have hk : conB N = true := by rw [conB, hg, hc]; rfl
   have hel := eccs_len N
   have hmx := eccs_max hs hn.1
   have dfx := And.intro dfx (@hc)
   repeat refine evF ?_
   have dfk := And.intro @hg @hc
   refine aops_end (hK _ (dwKF [1, 11] ?_))
   clear hK K
   refine dwI (fun hb => ?_) (fun hb => ?_)
   ·cases hb
   ·refine dw_skip ?_
    show DW _ _ _ _ _
    refine dw_seq (dwR fun K hK => ?_)
    repeat refine evF ?_
    refine clF rfl ⟨rfl, _, rfl⟩ (by omega) (by first | exact may70 | exact mayMax) (eccentricities_d ⟨false, f.t1, f.o2, f.t2, false, f.t3, false, f.t4⟩ N hg) ?_
    rintro _ rfl
    repeat refine evF ?_
    refine clF rfl ⟨rfl, _, rfl⟩ (by omega) (by first | exact may70 | exact mayMax) (Max_d true 3 (eccs N) (by omega)) ?_
    rintro _ rfl
    repeat refine evF ?_
    have dfk := @hmx
    refine aops_end (hK _ (dwKF [2, 3] ?_))
    clear hK K
    exact dw_ret (fin_ret Tryz.results21 (.two (.plain _ _ rfl) (.plain _ _ rfl)) (by decide) (by rw [hk, if_pos rfl]))
  ·have hk : conB N = false := by rw [conB, hg, hc]; rfl
   have dfx := And.intro dfx (@hc)
   repeat refine evF ?_
   have dfk := And.intro @hg @hc
   refine aops_end (hK _ (dwKF [11] ?_))
   clear hK K
   refine dwI (fun hb => ?_) (fun hb => ?_)
   ·refine dw_seq (dwR fun K hK => ?_)
    repeat refine evF ?_
    refine aops_end (hK _ (dwK [2, 3] ?_))
    clear hK K
    exact dw_ret (fin_ret Tryz.results21 (.two (.plain _ _ rfl) (.plain _ _ rfl)) (by decide) (by rw [hk]; rfl))
   ·cases hb
 ·have hk : conB N = false := by rw [conB, hg]; rfl
  have dfx := And.intro dfx (@hg)
  repeat refine evF ?_
  have dfx := And.intro dfx (@hg)
  refine csF ?_
  repeat refine evF ?_
  have dfx := And.intro dfx (@hg)
  repeat refine evF ?_
  have dfk := @hg
  refine aops_end (hK _ (dwKF [11] ?_))
  clear hK K
  refine dwI (fun hb => ?_) (fun hb => ?_)
  ·refine dw_seq (dwR fun K hK => ?_)
   repeat refine evF ?_
   refine aops_end (hK _ (dwK [2, 3] ?_))
   clear hK K
   exact dw_ret (fin_ret Tryz.results21 (.two (.plain _ _ rfl) (.plain _ _ rfl)) (by decide) (by rw [hk]; rfl))
  ·cases hb
noncomputable def cenL (N : Net) : List Int := if conB N = true then pickT (fun j => gi (eccs N) j == mn0 (eccs N)) N.ends.length else []
set_option maxRecDepth 8000 in
set_option maxHeartbeats 0 in
theorem CentresOf_d (f : NF) (N : Net) (hi : N.ids.length ≤ 2097152) : DCalls Tryz.prog 23 [.agg (netC f N)] (fun r => r = [.own false [.sl true 3 1 ((cenL N).map iC)], .c (.p (.bool (conB N)))]) := by
 refine dcalls_of Tryz.func23 rfl (by rw [Tryz.ntmps23]; simp) fun w0 => ?_
 rw [Tryz.ntmps23]
 have dfx := dfxDme3
 simp only [initE, argsL, Arg.av, netC, endss, ints, ends]
 refine dw_seq (dwR fun K hK => ?_)
 repeat refine evF ?_
 refine aops_end (hK _ (dwK [1] ?_))
 clear hK K
 refine dw_seq ?_
 refine dw_seq (dwR fun K hK => ?_)
 repeat refine evF ?_
 refine clF rfl ⟨rfl, _, rfl⟩ (by omega) (by first | exact may55 | exact may69) (IsNetwork_d ⟨false, f.t1, f.o2, f.t2, false, f.t3, false, f.t4⟩ N hi) ?_
 rintro _ rfl
 repeat refine evF ?_
 obtain hg | hg := Bool.eq_false_or_eq_true (goodB N)
 ·obtain ⟨hs, hn, -, hdg⟩ := good_all hg
  have dfx := And.intro dfx (@hg)
  repeat refine evF ?_
  refine cgF rfl rfl ⟨rfl, _, rfl⟩ (by omega) (by first | exact may55 | exact may69) (isConnected_d ⟨false, f.t1, f.o2, f.t2, false, f.t3, false, f.t4⟩ N hg (a := 0) (by omega)) ?_
  rintro _ rfl
  repeat refine evF ?_
  obtain hc | hc := Bool.eq_false_or_eq_true (connB N 0)
  ·have hk : conB N = true := by rw [conB, hg, hc]; rfl
   have hel := eccs_len N
   have hmx := eccs_min hs hn
   have dfx := And.intro dfx (@hc)
   repeat refine evF ?_
   have dfk := And.intro @hg @hc
   refine aops_end (hK _ (dwKF [1, 15] ?_))
   clear hK K
   refine dwI (fun hb => ?_) (fun hb => ?_)
   ·cases hb
   ·refine dw_skip ?_
    show DW _ _ _ _ _
    refine dw_seq (dwR fun K hK => ?_)
    repeat refine evF ?_
    refine clF rfl ⟨rfl, _, rfl⟩ (by omega) (by first | exact may70) (eccentricities_d ⟨false, f.t1, f.o2, f.t2, false, f.t3, false, f.t4⟩ N hg) ?_
    rintro _ rfl
    repeat refine evF ?_
    refine aops_end (hK _ (dwK [4] ?_))
    clear hK K
    refine dw_seq (dwR fun K hK => ?_)
    repeat refine evF ?_
    refine aops_end (hK _ (dwK [4, 5] ?_))
    clear hK K
    refine dw_seq ?_
    refine dw_seq (dwR fun K hK => ?_)
    repeat refine evF ?_
    refine aops_end (hK _ (dwK [4, 5, 18, 19, 20] ?_))
    clear hK K
    refine dw_block ?_
    refine dw_nil 5 3 1 (by decide) (by simp only [bunK, C.at, C.put, List.dropLast, List.isPrefixOf, Nat.reduceMul, Nat.reduceLT, Nat.reduceLeDiff, Nat.reduceBEq, Nat.reduceEqDiff, reduceCtorEq, Nat.reduceAdd, ↓reduceIte]) [4, 5, 18, 19, 20] (by simp only [bunK, C.at, C.put, List.dropLast, List.isPrefixOf, Nat.reduceMul, Nat.reduceLT, Nat.reduceLeDiff, Nat.reduceBEq, Nat.reduceEqDiff, reduceCtorEq, Nat.reduceAdd, ↓reduceIte]; exact rfl) ?_
    refine dw_loopP (X := Nat) (fun k => k ≤ N.ends.length) (fun k => [(20, .c (.p (.int .i64 k)))]) (fun k => [((5, 0), ⟨none, [.sl true 3 1 ((pickT (fun j => gi (eccs N) j == mn0 (eccs N)) k).map iC)]⟩)]) (fun k => N.ends.length - k) 0 (Nat.zero_le _) (by first | rfl | (simp only [bunK, C.at, C.put, List.dropLast, List.isPrefixOf, Nat.reduceMul, Nat.reduceLT, Nat.reduceLeDiff, Nat.reduceBEq, Nat.reduceEqDiff, reduceCtorEq, Nat.reduceAdd, ↓reduceIte, Int.natCast_zero] <;> rfl)) ?_
    rintro k hk9
    intro E hE
    simp only [bunK, C.at, C.put, List.dropLast, List.isPrefixOf, Nat.reduceMul, Nat.reduceLT, Nat.reduceLeDiff, Nat.reduceBEq, Nat.reduceEqDiff, reduceCtorEq, Nat.reduceAdd, ↓reduceIte] at hE
    subst hE
    refine dw_seq (dwR fun K hK => ?_)
    repeat refine evF ?_
    refine aops_end (hK _ (dwK [4, 5, 18, 19, 20, 21] ?_))
    clear hK K
    refine dw_seq (dwI (fun hb => ?_) (fun hb => ?_))
    ·have hkl : k < N.ends.length := by
      have : k < (eccs N).length := by simpa using hb
      omega
     have hkd : k < (eccs N).length := by omega
     refine dw_skip ?_
     show DW _ _ _ _ _
     refine dw_join (X := Unit) (fun _u => True) (fun _u => mkE 35 [(4, .own false 1), (5, .own false 1), (18, .ref 4 0 [(0, 0)] false 1), (19, .c (.p (.int .i64 ((eccs N).length : Int)))), (20, .c (.p (.int .i64 k)))] [((4, 0), ⟨none, [.sl true 3 1 ((eccs N).map iC)]⟩), ((5, 0), ⟨none, [.sl true 3 1 ((pickT (fun j => gi (eccs N) j == mn0 (eccs N)) (k + 1)).map iC)]⟩)]) ?_ ?_
     ·refine dw_block ?_
      refine dw_seq (dwR fun K hK => ?_)
      repeat refine evF ?_
      refine aops_end (hK _ (dwK [4, 5, 6, 7, 18, 19, 20] ?_))
      clear hK K
      refine dw_seq (dwR fun K hK => ?_)
      repeat refine evF ?_
      refine clF rfl ⟨rfl, _, rfl⟩ (by omega) (by first | exact mayMin) (Min_d true 3 (eccs N) (by omega)) ?_
      rintro _ rfl
      repeat refine evF ?_
      have dfx := And.intro dfx (@hmx)
      repeat refine evF ?_
      have dfk := @hmx
      refine aops_end (hK _ (dwKF [4, 5, 6, 18, 19, 20, 28] ?_))
      clear hK K
      have hpl := pickT_le (fun j => gi (eccs N) j == mn0 (eccs N)) k
      refine dwI (fun hb => ?_) (fun hb => ?_)
      ·have hns := pickT_yes (p := fun j => gi (eccs N) j == mn0 (eccs N)) (k := k) (by simpa using hb)
       refine dwR fun K hK => ?_
       repeat refine evF ?_
       refine aops_end (hK _ ?_)
       clear hK K
       show ∃ x, _ ∧ Weak _ _
       refine ⟨(), ?_, (weak_keep _ [4, 5, 18, 19, 20]).trans (Weak.of_eq (by simp only [bunK, C.at, C.put, List.dropLast, List.isPrefixOf, Nat.reduceMul, Nat.reduceLT, Nat.reduceLeDiff, Nat.reduceBEq, Nat.reduceEqDiff, reduceCtorEq, Nat.reduceAdd, ↓reduceIte , snoc_iC, hns] <;> exact rfl))⟩
       trivial
      ·have hns := pickT_no (p := fun j => gi (eccs N) j == mn0 (eccs N)) (k := k) (by simpa using hb)
       refine dw_skip ?_
       show ∃ x, _ ∧ Weak _ _
       refine ⟨(), ?_, (weak_keep _ [4, 5, 18, 19, 20]).trans (Weak.of_eq (by simp only [bunK, C.at, C.put, List.dropLast, List.isPrefixOf, Nat.reduceMul, Nat.reduceLT, Nat.reduceLeDiff, Nat.reduceBEq, Nat.reduceEqDiff, reduceCtorEq, Nat.reduceAdd, ↓reduceIte , hns] <;> exact rfl))⟩
       trivial
     ·rintro _ _
      refine dwR fun K hK => ?_
      repeat refine evF ?_
      have dfk := @castS
      refine aops_end (hK _ ?_)
      clear hK K
      show ∃ x, _ ∧ _ ∧ Weak _ _
      refine ⟨k + 1, ?_, ?_, weakFk [4, 5, 18, 19, 20]⟩
      ·omega
      ·omega
    ·have hk2 : k = N.ends.length := by
      have : ¬ k < (eccs N).length := by simpa using hb
      omega
     refine dw_leave3 ?_
     refine dw_keep [5] (by simp only [bunK, C.at, C.put, List.dropLast, List.isPrefixOf, Nat.reduceMul, Nat.reduceLT, Nat.reduceLeDiff, Nat.reduceBEq, Nat.reduceEqDiff, reduceCtorEq, Nat.reduceAdd, ↓reduceIte]; exact rfl) ?_
     refine dw_seq (dwR fun K hK => ?_)
     repeat refine evF ?_
     refine aops_end (hK _ (dwK [2, 3] ?_))
     clear hK K
     exact dw_ret (fin_ret Tryz.results23 (.two (.own _ _ _ _ rfl rfl (own1 (owned_ints _ _))) (.plain _ _ rfl)) (by decide) (by rw [hk, cenL, if_pos hk, hk2]))
  ·have hk : conB N = false := by rw [conB, hg, hc]; rfl
   have dfx := And.intro dfx (@hc)
   repeat refine evF ?_
   have dfk := And.intro @hg @hc
   refine aops_end (hK _ (dwKF [15] ?_))
   clear hK K
   refine dwI (fun hb => ?_) (fun hb => ?_)
   ·refine dw_seq (dwR fun K hK => ?_)
    repeat refine evF ?_
    refine aops_end (hK _ (dwK [2, 3] ?_))
    clear hK K
    refine dw_nil 2 3 1 (by decide) (by simp only [bunK, C.at, C.put, List.dropLast, List.isPrefixOf, Nat.reduceMul, Nat.reduceLT, Nat.reduceLeDiff, Nat.reduceBEq, Nat.reduceEqDiff, reduceCtorEq, Nat.reduceAdd, ↓reduceIte]) [2, 3] (by simp only [bunK, C.at, C.put, List.dropLast, List.isPrefixOf, Nat.reduceMul, Nat.reduceLT, Nat.reduceLeDiff, Nat.reduceBEq, Nat.reduceEqDiff, reduceCtorEq, Nat.reduceAdd, ↓reduceIte]; exact rfl) ?_
    exact dw_ret (fin_ret Tryz.results23 (.two (.own _ _ _ _ rfl rfl (own1 (owned_ints _ []))) (.plain _ _ rfl)) (by decide) (by rw [cenL, hk]; rfl))
   ·cases hb
 ·have hk : conB N = false := by rw [conB, hg]; rfl
  have dfx := And.intro dfx (@hg)
  repeat refine evF ?_
  have dfx := And.intro dfx (@hg)
  refine csF ?_
  repeat refine evF ?_
  have dfx := And.intro dfx (@hg)
  repeat refine evF ?_
  have dfk := @hg
  refine aops_end (hK _ (dwKF [15] ?_))
  clear hK K
  refine dwI (fun hb => ?_) (fun hb => ?_)
  ·refine dw_seq (dwR fun K hK => ?_)
   repeat refine evF ?_
   refine aops_end (hK _ (dwK [2, 3] ?_))
   clear hK K
   refine dw_nil 2 3 1 (by decide) (by simp only [bunK, C.at, C.put, List.dropLast, List.isPrefixOf, Nat.reduceMul, Nat.reduceLT, Nat.reduceLeDiff, Nat.reduceBEq, Nat.reduceEqDiff, reduceCtorEq, Nat.reduceAdd, ↓reduceIte]) [2, 3] (by simp only [bunK, C.at, C.put, List.dropLast, List.isPrefixOf, Nat.reduceMul, Nat.reduceLT, Nat.reduceLeDiff, Nat.reduceBEq, Nat.reduceEqDiff, reduceCtorEq, Nat.reduceAdd, ↓reduceIte]; exact rfl) ?_
   exact dw_ret (fin_ret Tryz.results23 (.two (.own _ _ _ _ rfl rfl (own1 (owned_ints _ []))) (.plain _ _ rfl)) (by decide) (by rw [cenL, hk]; rfl))
  ·cases hb
end
section
open Go Go.RowKit
theorem dfxDme4 : type_of% (And.intro tab27 (And.intro tab25 (And.intro tab3 (And.intro tab24 (And.intro tab82 (And.intro @if_pos.{1} (And.intro @rowi (And.intro tab35 (And.intro @getDe (And.intro @getDp (And.intro @getDi (And.intro @toNat0 (And.intro @toNat1 @trivial))))))))))))) := And.intro tab27 (And.intro tab25 (And.intro tab3 (And.intro tab24 (And.intro tab82 (And.intro @if_pos.{1} (And.intro @rowi (And.intro tab35 (And.intro @getDe (And.intro @getDp (And.intro @getDi (And.intro @toNat0 (And.intro @toNat1 @trivial))))))))))))
set_option maxRecDepth 8000 in
set_option maxHeartbeats 0 in
theorem ShellSizes_d (f : NF) (N : Net) (v D : Nat) (hg : goodB N = true) (hv : v < N.ends.length) (hm : ecc N v + 1 = D) : DCalls Tryz.prog 14 [.agg (netC f N), .c (.p (.int .i64 v))] (fun rr => rr = [.own false [.sl true 3 1 ((shl (dists N v) D N.ends.length).map iC)], .c (.p (.bool true))]) := by
 obtain ⟨hs, hn, hids, hdg⟩ := good_all hg
 have hin : inB (v : Int) 0 ((N.ends.length : Int) - 1) = true := inB_iff.2 (by omega)
 have hdl := (dists_is hs hv).len
 have hmx : Lib.maxOf (dists N v) = ecc N v := dist_maxOf hs hv
 have hml : 0 < D ∧ D ≤ N.ends.length := by have := ecc_bnd hs hv; omega
 have htn : (ecc N v + 1).toNat = D := by omega
 have hz := shl_zero (dists N v) D
 refine dcalls_of Tryz.func14 rfl (by rw [Tryz.ntmps14]; simp) fun w0 => ?_
 rw [Tryz.ntmps14]
 have dfx := dfxDme4
 simp only [initE, argsL, Arg.av, netC, endss, ints, ends]
 refine dw_seq (dwR fun K hK => ?_)
 repeat refine evF ?_
 refine aops_end (hK _ (dwK [1, 2] ?_))
 clear hK K
 refine dw_seq ?_
 refine dw_seq (dwR fun K hK => ?_)
 repeat refine evF ?_
 refine clF rfl ⟨rfl, _, rfl⟩ (by omega) (by first | exact may55 | exact may56) (IsNetwork_d ⟨false, f.t1, f.o2, f.t2, false, f.t3, false, f.t4⟩ N hids) ?_
 rintro _ rfl
 repeat refine evF ?_
 have dfx := And.intro dfx (@hg)
 repeat refine evF ?_
 refine cgF rfl rfl ⟨rfl, _, rfl⟩ (by omega) (by first | exact may55 | exact may56) (hasNode_d ⟨false, f.t1, f.o2, f.t2, false, f.t3, false, f.t4⟩ N v (by omega)) ?_
 rintro _ rfl
 repeat refine evF ?_
 have dfx := And.intro dfx (@hin)
 repeat refine evF ?_
 have dfk := And.intro @hin @hg
 refine aops_end (hK _ (dwKF [1, 2, 18] ?_))
 clear hK K
 refine dwI (fun hb => ?_) (fun hb => ?_)
 ·cases hb
 ·refine dw_skip ?_
  show DW _ _ _ _ _
  refine dw_seq (dwR fun K hK => ?_)
  repeat refine evF ?_
  refine clF rfl ⟨rfl, _, rfl⟩ (by omega) (by first | exact may57) (distancesFrom_d ⟨false, f.t1, f.o2, f.t2, false, f.t3, false, f.t4⟩ N v hs hv (by omega) hdg) ?_
  rintro _ rfl
  repeat refine evF ?_
  refine aops_end (hK _ (dwK [6] ?_))
  clear hK K
  refine dw_seq (dwR fun K hK => ?_)
  repeat refine evF ?_
  refine clF rfl ⟨rfl, _, rfl⟩ (by omega) (by first | exact mayMax) (Max_d true 3 (dists N v) (by omega)) ?_
  rintro _ rfl
  repeat refine evF ?_
  have dfx := And.intro dfx (And.intro @hmx @htn)
  repeat refine evF ?_
  have dfk := And.intro @zrows @htn
  refine aops_end (hK _ (dwKF [6, 7] ?_))
  clear hK K
  refine dw_seq ?_
  refine dw_seq (dwR fun K hK => ?_)
  repeat refine evF ?_
  have dfk := (Eq.symm hz)
  refine aops_end (hK _ (dwKF [6, 7, 26, 27, 28] ?_))
  clear hK K
  refine dw_block ?_
  refine dw_loopP (X := Nat) (fun k => k ≤ N.ends.length) (fun k => [(28, .c (.p (.int .i64 k)))]) (fun k => [((7, 0), ⟨none, [.sl true 3 1 ((shl (dists N v) D k).map iC)]⟩)]) (fun k => N.ends.length - k) 0 (Nat.zero_le _) (by first | rfl | (simp only [bunK, C.at, C.put, List.dropLast, List.isPrefixOf, Nat.reduceMul, Nat.reduceLT, Nat.reduceLeDiff, Nat.reduceBEq, Nat.reduceEqDiff, reduceCtorEq, Nat.reduceAdd, ↓reduceIte, Int.natCast_zero] <;> rfl)) ?_
  rintro k hk
  intro E hE
  simp only [bunK, C.at, C.put, List.dropLast, List.isPrefixOf, Nat.reduceMul, Nat.reduceLT, Nat.reduceLeDiff, Nat.reduceBEq, Nat.reduceEqDiff, reduceCtorEq, Nat.reduceAdd, ↓reduceIte] at hE
  subst hE
  refine dw_seq (dwR fun K hK => ?_)
  repeat refine evF ?_
  refine aops_end (hK _ (dwK [6, 7, 26, 27, 28, 29] ?_))
  clear hK K
  refine dw_seq (dwI (fun hb => ?_) (fun hb => ?_))
  ·have hkl : k < N.ends.length := by
    have : k < (dists N v).length := by simpa using hb
    omega
   have hkd : k < (dists N v).length := by omega
   have hsl := shl_len (dists N v) D k
   refine dw_skip ?_
   show DW _ _ _ _ _
   refine dw_join (X := Unit) (fun _u => True) (fun _u => mkE 42 [(6, .own false 1), (7, .own false 1), (26, .ref 6 0 [(0, 0)] false 1), (27, .c (.p (.int .i64 ((dists N v).length : Int)))), (28, .c (.p (.int .i64 k)))] [((6, 0), ⟨none, [.sl true 3 1 ((dists N v).map iC)]⟩), ((7, 0), ⟨none, [.sl true 3 1 ((shl (dists N v) D (k + 1)).map iC)]⟩)]) ?_ ?_
   ·refine dw_block ?_
    refine dw_seq (dwR fun K hK => ?_)
    repeat refine evF ?_
    refine aops_end (hK _ (dwK [6, 7, 9, 26, 27, 28] ?_))
    clear hK K
    refine dw_seq (dwR fun K hK => ?_)
    repeat refine evF ?_
    refine aops_end (hK _ (dwK [6, 7, 9, 26, 27, 28, 33] ?_))
    clear hK K
    refine dwI (fun hb => ?_) (fun hb => ?_)
    ·have h0 : 0 ≤ gi (dists N v) k := by simpa using hb
     obtain ⟨d, hd⟩ := Int.eq_ofNat_of_zero_le h0
     have hdm : d < D := by have := ecc_ge hs hv hkl; omega
     have hns := shl_hit (D := D) hd hdm
     have hgd := hd
     have hcb := cnt_bnd (fun j => gi (dists N v) j == (d : Int)) k
     have hge : gi (shl (dists N v) D k) d = cnt k fun j => gi (dists N v) j == (d : Int) := gi_tab hdm
     have hw2 : IntKind.i64.wrap (gi (shl (dists N v) D k) d + 1) = gi (shl (dists N v) D k) d + 1 := w64_in _ (by omega)
     have hds : d < (shl (dists N v) D k).length := by omega
     have hdz : 0 ≤ (d : Int) ∧ (d : Int) < ((shl (dists N v) D k).length : Int) := by omega
     have dfx := And.intro dfx (And.intro @hgd (And.intro @Int.toNat_natCast @hw2))
     refine dwR fun K hK => ?_
     repeat refine evF ?_
     refine aops_end (hK _ ?_)
     clear hK K
     show ∃ x, _ ∧ Weak _ _
     refine ⟨(), ?_, (weak_keep _ [6, 7, 26, 27, 28]).trans (Weak.of_eq (by simp only [bunK, C.at, C.put, List.dropLast, List.isPrefixOf, Nat.reduceMul, Nat.reduceLT, Nat.reduceLeDiff, Nat.reduceBEq, Nat.reduceEqDiff, reduceCtorEq, Nat.reduceAdd, ↓reduceIte , hns, puti] <;> exact rfl))⟩
     trivial
    ·have h0 : gi (dists N v) k < 0 := by
      have : ¬ 0 ≤ gi (dists N v) k := by simpa using hb
      omega
     have hns := shl_neg (D := D) h0
     refine dw_skip ?_
     show ∃ x, _ ∧ Weak _ _
     refine ⟨(), ?_, (weak_keep _ [6, 7, 26, 27, 28]).trans (Weak.of_eq (by simp only [bunK, C.at, C.put, List.dropLast, List.isPrefixOf, Nat.reduceMul, Nat.reduceLT, Nat.reduceLeDiff, Nat.reduceBEq, Nat.reduceEqDiff, reduceCtorEq, Nat.reduceAdd, ↓reduceIte , hns] <;> exact rfl))⟩
     trivial
   ·rintro _ _
    refine dwR fun K hK => ?_
    repeat refine evF ?_
    have dfk := @castS
    refine aops_end (hK _ ?_)
    clear hK K
    show ∃ x, _ ∧ _ ∧ Weak _ _
    refine ⟨k + 1, ?_, ?_, weakFk [6, 7, 26, 27, 28]⟩
    ·omega
    ·omega
  ·have hk2 : k = N.ends.length := by
    have : ¬ k < (dists N v).length := by simpa using hb
    omega
   refine dw_leave3 ?_
   refine dw_keep [7] (by simp only [bunK, C.at, C.put, List.dropLast, List.isPrefixOf, Nat.reduceMul, Nat.reduceLT, Nat.reduceLeDiff, Nat.reduceBEq, Nat.reduceEqDiff, reduceCtorEq, Nat.reduceAdd, ↓reduceIte]; exact rfl) ?_
   refine dw_seq (dwR fun K hK => ?_)
   repeat refine evF ?_
   refine aops_end (hK _ (dwK [4, 5] ?_))
   clear hK K
   exact dw_ret (fin_ret Tryz.results14 (.two (.own _ _ _ _ rfl rfl (own1 (owned_ints _ _))) (.plain _ _ rfl)) (by decide) (by rw [hk2]))
end
section
open Go Go.RowKit
theorem dfxDme5 : type_of% (And.intro tab27 (And.intro tab25 (And.intro tab3 (And.intro tab24 (And.intro tab82 (And.intro @if_pos.{1} (And.intro @rowi (And.intro tab35 (And.intro @getDe (And.intro @getDp (And.intro @getDi (And.intro @toNat0 (And.intro @toNat1 @trivial))))))))))))) := And.intro tab27 (And.intro tab25 (And.intro tab3 (And.intro tab24 (And.intro tab82 (And.intro @if_pos.{1} (And.intro @rowi (And.intro tab35 (And.intro @getDe (And.intro @getDp (And.intro @getDi (And.intro @toNat0 (And.intro @toNat1 @trivial))))))))))))
set_option maxRecDepth 8000 in
set_option maxHeartbeats 0 in
theorem IndexFuncE_d (o : Bool) (t : TypeId) (es : List (Int × Int)) (g : FuncId) (css : List (List C)) (b : Nat → Bool) (hl : es.length ≤ 1000000) (hm : callOk Tryz.prog g = true) (hg : ∀ j, j < es.length → DCalls Tryz.prog g ([.agg (eC (gp es j))] ++ css.map .rp) (fun r => r = [.c (.p (.bool (b j)))])) : DCalls Tryz.prog 58 [.c (.sl o t 2 (es.map eC)), .fn g css] (fun r => r = [.c (.p (.int .i64 (fstF es.length b)))]) := by
 refine dcalls_of Tryz.func58 rfl (by rw [Tryz.ntmps58]; simp) fun w0 => ?_
 rw [Tryz.ntmps58]
 have dfx := dfxDme5
 simp only [initE, argsL, Arg.av, netC, endss, ints, ends]
 refine dw_seq (dwR fun K hK => ?_)
 repeat refine evF ?_
 refine aops_end (hK _ (dwK [0, 1] ?_))
 clear hK K
 refine dw_seq ?_
 refine dw_seq (dwR fun K hK => ?_)
 repeat refine evF ?_
 refine aops_end (hK _ (dwK [0, 1, 7, 8] ?_))
 clear hK K
 refine dw_block ?_
 refine dw_loopP (X := Nat) (fun k => k ≤ es.length ∧ ∀ j, j < k → b j = false) (fun k => [(8, .c (.p (.int .i64 k)))]) (fun k => []) (fun k => es.length - k) 0 ⟨Nat.zero_le _, fun j hj => by simp at hj⟩ (by first | rfl | (simp only [bunK, C.at, C.put, List.dropLast, List.isPrefixOf, Nat.reduceMul, Nat.reduceLT, Nat.reduceLeDiff, Nat.reduceBEq, Nat.reduceEqDiff, reduceCtorEq, Nat.reduceAdd, ↓reduceIte, Int.natCast_zero] <;> rfl)) ?_
 rintro k ⟨hk, hne⟩
 intro E hE
 simp only [bunK, C.at, C.put, List.dropLast, List.isPrefixOf, Nat.reduceMul, Nat.reduceLT, Nat.reduceLeDiff, Nat.reduceBEq, Nat.reduceEqDiff, reduceCtorEq, Nat.reduceAdd, ↓reduceIte] at hE
 subst hE
 refine dw_seq (dwR fun K hK => ?_)
 repeat refine evF ?_
 refine aops_end (hK _ (dwK [0, 1, 7, 8, 9] ?_))
 clear hK K
 refine dw_seq (dwI (fun hb => ?_) (fun hb => ?_))
 ·have hkl : k < es.length := by simpa using hb
  refine dw_skip ?_
  show DW _ _ _ _ _
  refine dw_seq (dw_block ?_)
  refine dw_seq (dwR fun K hK => ?_)
  repeat refine evF ?_
  refine aops_end (hK _ (dwK [0, 1, 5, 7, 8] ?_))
  clear hK K
  refine dw_seq (dwR fun K hK => ?_)
  repeat refine evF ?_
  refine aops_fncall rfl ⟨rfl, _, rfl⟩ (by omega) (by simp (disch := first | omega | (intros; contradiction)) only [bunK, bunX, C.at, C.put, List.dropLast, List.isPrefixOf, Nat.reduceMul, Nat.reduceLT, Nat.reduceLeDiff, Nat.reduceBEq, Nat.reduceEqDiff, reduceCtorEq, Nat.reduceAdd, ↓reduceIte, tab27, tab25, tab3, tab24, tab82, if_pos, rowi, tab35, getDe, getDp, getDi, toNat0, toNat1] <;> exact rfl) (by first | assumption) (by simp (disch := first | omega | (intros; contradiction)) only [bunK, bunX, C.at, C.put, List.dropLast, List.isPrefixOf, Nat.reduceMul, Nat.reduceLT, Nat.reduceLeDiff, Nat.reduceBEq, Nat.reduceEqDiff, reduceCtorEq, Nat.reduceAdd, ↓reduceIte, tab27, tab25, tab3, tab24, tab82, if_pos, rowi, tab35, getDe, getDp, getDi, toNat0, toNat1] <;> exact rfl) (hg k hkl) ?_
  rintro _ rfl
  repeat refine evF ?_
  refine aops_end (hK _ (dwK [0, 1, 5, 7, 8, 16] ?_))
  clear hK K
  refine dwI (fun hb => ?_) (fun hb => ?_)
  ·have hi : fstF es.length b = k := fstF_some hkl hb hne
   refine dw_seq (dwR fun K hK => ?_)
   repeat refine evF ?_
   refine aops_end (hK _ (dwK [4] ?_))
   clear hK K
   exact dw_ret (fin_ret Tryz.results58 (.one (.plain _ _ rfl)) (by decide) (by rw [hi]))
  ·refine dw_skip ?_
   show DW _ _ _ _ _
   refine dwR fun K hK => ?_
   repeat refine evF ?_
   have dfk := @castS
   refine aops_end (hK _ ?_)
   clear hK K
   show ∃ x, _ ∧ _ ∧ Weak _ _
   refine ⟨k + 1, ?_, ?_, weakFk [0, 1, 7, 8]⟩
   ·refine ⟨hkl, fun j hj => ?_⟩
    rcases Nat.lt_or_ge j k with h | h
    ·exact hne j h
    ·obtain rfl : j = k := by omega
     exact hb
   ·omega
 ·have hkl : k = es.length := by
   have : ¬ (k : Int) < (es.length : Int) := by simpa using hb
   omega
  subst hkl
  have hi : fstF es.length b = -1 := fstF_none hne
  refine dw_leave3 ?_
  refine dw_keep [] (by simp only [bunK, C.at, C.put, List.dropLast, List.isPrefixOf, Nat.reduceMul, Nat.reduceLT, Nat.reduceLeDiff, Nat.reduceBEq, Nat.reduceEqDiff, reduceCtorEq, Nat.reduceAdd, ↓reduceIte]; exact rfl) ?_
  refine dw_seq (dwR fun K hK => ?_)
  repeat refine evF ?_
  refine aops_end (hK _ (dwK [4] ?_))
  clear hK K
  exact dw_ret (fin_ret Tryz.results58 (.one (.plain _ _ rfl)) (by decide) (by rw [hi]))
def spanSt1 : Nat → Stat
 | 0 => ⟨[1], [], [], [5], [], []⟩
 | 1 => ⟨[2], [], [], [6], [], []⟩
 | 2 => ⟨[5, 6], [], [], [7], [], []⟩
 | 3 => ⟨[7], [], [], [8], [], []⟩
 | 4 => ⟨[8], [], [], [9], [], []⟩
 | 5 => ⟨[9], [], [], [10], [], []⟩
 | 6 => ⟨[1, 10], [], [], [11], [], []⟩
 | 7 => ⟨[3, 10], [(3, 1)], [], [12], [], []⟩
 | 8 => ⟨[12, 10], [(3, 1)], [], [13], [], []⟩
 | 9 => ⟨[11, 13, 10], [], [], [14], [], []⟩
 | 10 => ⟨[14, 10], [], [], [15], [], []⟩
 | 11 => ⟨[1, 10], [], [], [16], [], []⟩
 | 12 => ⟨[2, 10], [], [], [17], [], []⟩
 | 13 => ⟨[16, 17, 10], [], [], [18], [], []⟩
 | 14 => ⟨[18, 10], [], [], [19], [], []⟩
 | 15 => ⟨[19, 10], [], [], [20], [], []⟩
 | 16 => ⟨[15, 20, 10], [], [], [21], [], []⟩
 | 17 => ⟨[10, 21], [], [], [22], [], []⟩
 | 18 => ⟨[22], [], [], [4], [], []⟩
 | _ => ⟨[], [], [], [], [], []⟩
set_option maxRecDepth 8000 in
set_option maxHeartbeats 0 in
theorem spanClo_d (o : Bool) (t : TypeId) (d : List Int) (v w : Nat) (e : Int × Int) (hv : v < d.length) (he : e.1 = w) (hw : w < d.length) (hb1 : -1 ≤ gi d v ∧ gi d v ≤ 1000) : DCalls Tryz.prog 66 [.agg (eC e), .rp [.sl o t 1 (d.map iC)], .rp [.p (.int .i64 v)]] (fun r => r = [.c (.p (.bool (decide (0 < gi d v) && (gi d w == gi d v - 1))))]) := by
 obtain ⟨e1, e2⟩ := e
 obtain rfl : e1 = w := he
 refine dcalls_of Tryz.func66 rfl (by rw [Tryz.ntmps66]; simp) fun w0 => ?_
 rw [Tryz.ntmps66]
 have dfx := dfxDme5
 simp only [initE, argsL, Arg.av, netC, endss, ints, ends, eC]
 refine dw_seq (dwR fun K hK => ?_)
 repeat refine evF ?_
 refine aops_end (hK _ (dwK [1, 2, 3] ?_))
 clear hK K
 obtain h0 | h0 := Bool.eq_false_or_eq_true (decide (0 < gi d v))
 ·have dfx := And.intro dfx (@spanSt1.eq_def)
  refine dw_seq (dwRD spanSt1 (fun j r => True) fun K hK => ?_)
  repeat refine dvF ?_
  have dfx := And.intro dfx (And.intro @spanSt1.eq_def @h0)
  repeat refine dvF ?_
  have dfk := @h0
  refine dops_end (hK _ (dwKF [4] ?_))
  clear hK K
  exact dw_ret (fin_ret Tryz.results66 (.one (.plain _ _ rfl)) (by decide) (by rw [h0]; rfl))
 ·have dfx := And.intro dfx (@spanSt1.eq_def)
  refine dw_seq (dwRD spanSt1 (fun j r => True) fun K hK => ?_)
  repeat refine dvF ?_
  have dfx := And.intro dfx (And.intro @spanSt1.eq_def @h0)
  repeat refine dvF ?_
  have dfk := @h0
  refine dops_end (hK _ (dwKF [4] ?_))
  clear hK K
  exact dw_ret (fin_ret Tryz.results66 (.one (.plain _ _ rfl)) (by decide) (by rw [h0]; rfl))
def pathSt1 : Nat → Stat
 | 0 => ⟨[1], [], [], [5], [], []⟩
 | 1 => ⟨[3], [(3, 1)], [], [6], [], []⟩
 | 2 => ⟨[6], [(3, 1)], [], [7], [], []⟩
 | 3 => ⟨[5, 7], [], [], [8], [], []⟩
 | 4 => ⟨[8], [], [], [9], [], []⟩
 | 5 => ⟨[1], [], [], [10], [], []⟩
 | 6 => ⟨[2], [], [], [11], [], []⟩
 | 7 => ⟨[10, 11], [], [], [12], [], []⟩
 | 8 => ⟨[12], [], [], [13], [], []⟩
 | 9 => ⟨[13], [], [], [14], [], []⟩
 | 10 => ⟨[9, 14], [], [], [15], [], []⟩
 | 11 => ⟨[15], [], [], [4], [], []⟩
 | _ => ⟨[], [], [], [], [], []⟩
set_option maxRecDepth 8000 in
set_option maxHeartbeats 0 in
theorem pathClo_d (o : Bool) (t : TypeId) (d : List Int) (v w : Nat) (e : Int × Int) (hv : v < d.length) (he : e.1 = w) (hw : w < d.length) (hb1 : -1 ≤ gi d v ∧ gi d v ≤ 1000) : DCalls Tryz.prog 59 [.agg (eC e), .rp [.sl o t 1 (d.map iC)], .rp [.p (.int .i64 v)]] (fun r => r = [.c (.p (.bool (gi d w == gi d v - 1)))]) := by
 obtain ⟨e1, e2⟩ := e
 obtain rfl : e1 = w := he
 refine dcalls_of Tryz.func59 rfl (by rw [Tryz.ntmps59]; simp) fun w0 => ?_
 rw [Tryz.ntmps59]
 have dfx := dfxDme5
 simp only [initE, argsL, Arg.av, netC, endss, ints, ends, eC]
 refine dw_seq (dwR fun K hK => ?_)
 repeat refine evF ?_
 refine aops_end (hK _ (dwK [1, 2, 3] ?_))
 clear hK K
 have dfx := And.intro dfx (@pathSt1.eq_def)
 refine dw_seq (dwRD pathSt1 (fun j r => True) fun K hK => ?_)
 repeat refine dvF ?_
 refine dops_end (hK _ (dwK [4] ?_))
 clear hK K
 exact dw_ret (fin_ret Tryz.results59 (.one (.plain _ _ rfl)) (by decide) rfl)
end
section
open Go Go.RowKit
theorem fstF_prt (N : Net) (d : List Int) (k : Nat) : fstF (gl N.ends k).length (fun j => decide (0 < gi d k) && (gi d (nd N k j) == gi d k - 1)) = prt N d k := by
 unfold prt
 by_cases h : gi d k ≤ 0
 ·rw [if_pos h, fstF_none]
  intro j hj
  have : decide (0 < gi d k) = false := by simpa using h
  rw [this]; rfl
 ·rw [if_neg h]
  have : decide (0 < gi d k) = true := by simp; omega
  simp only [this, Bool.true_and]
  rfl
def prtT (N : Net) (d : List Int) (k : Nat) : List Int := tab k (prt N d)
theorem prtT_succ (N : Net) (d : List Int) (k : Nat) : prtT N d (k + 1) = prtT N d k ++ [prt N d k] := by unfold prtT tab; rw [List.range_succ, List.map_append]; rfl
theorem prtT_len (N : Net) (d : List Int) (k : Nat) : (prtT N d k).length = k := tab_len _ _
theorem dist_in {N : Net} (hs : Sym N.ends) (hn : N.ends.length ≤ 40) {u w : Nat} (hu : u < N.ends.length) (hw : w < N.ends.length) : -1 ≤ gi (dists N u) w ∧ gi (dists N u) w ≤ 1000 := by
 have h1 := (dists_is hs hu).low w hw
 have h2 := dist_lt hs hu hw
 omega
theorem dfxDme6 : type_of% (And.intro tab27 (And.intro tab25 (And.intro tab3 (And.intro tab24 (And.intro tab82 (And.intro @if_pos.{1} (And.intro @rowi (And.intro tab35 (And.intro @getDe (And.intro @getDp (And.intro @getDi (And.intro @toNat0 (And.intro @toNat1 @trivial))))))))))))) := And.intro tab27 (And.intro tab25 (And.intro tab3 (And.intro tab24 (And.intro tab82 (And.intro @if_pos.{1} (And.intro @rowi (And.intro tab35 (And.intro @getDe (And.intro @getDp (And.intro @getDi (And.intro @toNat0 (And.intro @toNat1 @trivial))))))))))))
set_option maxRecDepth 8000 in
set_option maxHeartbeats 0 in
theorem SpanningTree_d (f : NF) (N : Net) (v : Nat) (hg : goodB N = true) (hv : v < N.ends.length) : DCalls Tryz.prog 18 [.agg (netC f N), .c (.p (.int .i64 v))] (fun rr => rr = [.own false [.sl true 3 1 ((wpar N v).map iC)], .c (.p (.bool true))]) := by
 obtain ⟨hs, hn, hids, hdg⟩ := good_all hg
 have hin : inB (v : Int) 0 ((N.ends.length : Int) - 1) = true := inB_iff.2 (by omega)
 have hdl := (dists_is hs hv).len
 refine dcalls_of Tryz.func18 rfl (by rw [Tryz.ntmps18]; simp) fun w0 => ?_
 rw [Tryz.ntmps18]
 have dfx := dfxDme6
 simp only [initE, argsL, Arg.av, netC, endss, ints, ends]
 refine dw_seq (dwR fun K hK => ?_)
 repeat refine evF ?_
 refine aops_end (hK _ (dwK [1, 2] ?_))
 clear hK K
 refine dw_seq ?_
 refine dw_seq (dwR fun K hK => ?_)
 repeat refine evF ?_
 refine clF rfl ⟨rfl, _, rfl⟩ (by omega) (by first | exact may55 | exact may56) (IsNetwork_d ⟨false, f.t1, f.o2, f.t2, false, f.t3, false, f.t4⟩ N hids) ?_
 rintro _ rfl
 repeat refine evF ?_
 have dfx := And.intro dfx (@hg)
 repeat refine evF ?_
 refine cgF rfl rfl ⟨rfl, _, rfl⟩ (by omega) (by first | exact may55 | exact may56) (hasNode_d ⟨false, f.t1, f.o2, f.t2, false, f.t3, false, f.t4⟩ N v (by omega)) ?_
 rintro _ rfl
 repeat refine evF ?_
 have dfx := And.intro dfx (@hin)
 repeat refine evF ?_
 have dfk := And.intro @hin @hg
 refine aops_end (hK _ (dwKF [1, 2, 18] ?_))
 clear hK K
 refine dwI (fun hb => ?_) (fun hb => ?_)
 ·cases hb
 ·refine dw_skip ?_
  show DW _ _ _ _ _
  refine dw_seq (dwR fun K hK => ?_)
  repeat refine evF ?_
  refine clF rfl ⟨rfl, _, rfl⟩ (by omega) (by first | exact may57) (distancesFrom_d ⟨false, f.t1, f.o2, f.t2, false, f.t3, false, f.t4⟩ N v hs hv (by omega) hdg) ?_
  rintro _ rfl
  repeat refine evF ?_
  refine aops_end (hK _ (dwK [2, 6] ?_))
  clear hK K
  refine dw_seq (dwR fun K hK => ?_)
  repeat refine evF ?_
  refine aops_end (hK _ (dwK [2, 6, 7] ?_))
  clear hK K
  refine dw_seq ?_
  refine dw_seq (dwR fun K hK => ?_)
  repeat refine evF ?_
  refine aops_end (hK _ (dwK [6, 7, 23, 24, 25] ?_))
  clear hK K
  refine dw_block ?_
  refine dw_nil 7 3 1 (by decide) (by simp only [bunK, C.at, C.put, List.dropLast, List.isPrefixOf, Nat.reduceMul, Nat.reduceLT, Nat.reduceLeDiff, Nat.reduceBEq, Nat.reduceEqDiff, reduceCtorEq, Nat.reduceAdd, ↓reduceIte]) [6, 7, 23, 24, 25] (by simp only [bunK, C.at, C.put, List.dropLast, List.isPrefixOf, Nat.reduceMul, Nat.reduceLT, Nat.reduceLeDiff, Nat.reduceBEq, Nat.reduceEqDiff, reduceCtorEq, Nat.reduceAdd, ↓reduceIte]; exact rfl) ?_
  refine dw_loopP (X := Nat) (fun k => k ≤ N.ends.length) (fun k => [(25, .c (.p (.int .i64 k)))]) (fun k => [((7, 0), ⟨none, [.sl true 3 1 ((prtT N (dists N v) k).map iC)]⟩)]) (fun k => N.ends.length - k) 0 (Nat.zero_le _) (by first | rfl | (simp only [bunK, C.at, C.put, List.dropLast, List.isPrefixOf, Nat.reduceMul, Nat.reduceLT, Nat.reduceLeDiff, Nat.reduceBEq, Nat.reduceEqDiff, reduceCtorEq, Nat.reduceAdd, ↓reduceIte, Int.natCast_zero] <;> rfl)) ?_
  rintro k hk
  intro E hE
  simp only [bunK, C.at, C.put, List.dropLast, List.isPrefixOf, Nat.reduceMul, Nat.reduceLT, Nat.reduceLeDiff, Nat.reduceBEq, Nat.reduceEqDiff, reduceCtorEq, Nat.reduceAdd, ↓reduceIte] at hE
  subst hE
  refine dw_seq (dwR fun K hK => ?_)
  repeat refine evF ?_
  refine aops_end (hK _ (dwK [6, 7, 23, 24, 25, 26] ?_))
  clear hK K
  refine dw_seq (dwI (fun hb => ?_) (fun hb => ?_))
  ·have hkl : k < N.ends.length := by simpa using hb
   have hns := prtT_succ N (dists N v) k
   have hpl := prtT_len N (dists N v) k
   have hfp := fstF_prt N (dists N v) k
   have hdk := hdg k
   refine dw_skip ?_
   show DW _ _ _ _ _
   refine dw_seq (dw_block ?_)
   refine dw_seq (dwR fun K hK => ?_)
   repeat refine evF ?_
   refine aops_end (hK _ (dwK [6, 7, 8, 9, 23, 24, 25] ?_))
   clear hK K
   refine dwR fun K hK => ?_
   repeat (apply aops_ev; (focus exact rfl); (focus (simp (disch := first | omega | (intros; contradiction)) only [bunK, bunX, C.at, C.put, List.dropLast, List.isPrefixOf, Nat.reduceMul, Nat.reduceLT, Nat.reduceLeDiff, Nat.reduceBEq, Nat.reduceEqDiff, reduceCtorEq, Nat.reduceAdd, ↓reduceIte, tab27, tab25, tab3, tab24, tab82, if_pos, rowi, tab35, getDe, getDp, getDi, toNat0, toNat1, may58]; exact rfl)))
   refine aops_call rfl ⟨rfl, _, rfl⟩ (by omega) (by first | exact may58) (by simp (disch := first | omega | (intros; contradiction)) only [bunK, bunX, C.at, C.put, List.dropLast, List.isPrefixOf, Nat.reduceMul, Nat.reduceLT, Nat.reduceLeDiff, Nat.reduceBEq, Nat.reduceEqDiff, reduceCtorEq, Nat.reduceAdd, ↓reduceIte, tab27, tab25, tab3, tab24, tab82, if_pos, rowi, tab35, getDe, getDp, getDi, toNat0, toNat1, may58] <;> exact rfl) (IndexFuncE_d f.o2 f.t2 (gl N.ends k) 66 [[.sl true 3 1 ((dists N v).map iC)], [.p (.int .i64 k)]] (fun j => decide (0 < gi (dists N v) k) && (gi (dists N v) (nd N k j) == gi (dists N v) k - 1)) (by omega) may66 fun j hj => spanClo_d true 3 (dists N v) k (nd N k j) (gp (gl N.ends k) j) (by omega) (by rw [(sym_nd hs hkl hj).2.2.2.2]) (by rw [hdl]; exact (sym_nd hs hkl hj).1) (dist_in hs hn.2 hv hkl)) ?_
   rintro _ rfl
   repeat (apply aops_ev; (focus exact rfl); (focus (simp (disch := first | omega | (intros; contradiction)) only [bunK, bunX, C.at, C.put, List.dropLast, List.isPrefixOf, Nat.reduceMul, Nat.reduceLT, Nat.reduceLeDiff, Nat.reduceBEq, Nat.reduceEqDiff, reduceCtorEq, Nat.reduceAdd, ↓reduceIte, tab27, tab25, tab3, tab24, tab82, if_pos, rowi, tab35, getDe, getDp, getDi, toNat0, toNat1, may58]; exact rfl)))
   have dfx := And.intro dfx (@hfp)
   repeat refine evF ?_
   have dfk := And.intro @snoc_iC @hfp
   refine aops_end (hK _ (dwKF [6, 7, 23, 24, 25] ?_))
   clear hK K
   refine dwR fun K hK => ?_
   repeat refine evF ?_
   have dfk := And.intro @castS @hns
   refine aops_end (hK _ ?_)
   clear hK K
   show ∃ x, _ ∧ _ ∧ Weak _ _
   refine ⟨k + 1, ?_, ?_, weakFk [6, 7, 23, 24, 25]⟩
   ·omega
   ·omega
  ·have hk2 : k = N.ends.length := by
    have : ¬ k < N.ends.length := by simpa using hb
    omega
   refine dw_leave3 ?_
   refine dw_keep [7] (by simp only [bunK, C.at, C.put, List.dropLast, List.isPrefixOf, Nat.reduceMul, Nat.reduceLT, Nat.reduceLeDiff, Nat.reduceBEq, Nat.reduceEqDiff, reduceCtorEq, Nat.reduceAdd, ↓reduceIte]; exact rfl) ?_
   refine dw_seq (dwR fun K hK => ?_)
   repeat refine evF ?_
   refine aops_end (hK _ (dwK [4, 5] ?_))
   clear hK K
   exact dw_ret (fin_ret Tryz.results18 (.two (.own _ _ _ _ rfl rfl (own1 (owned_ints _ _))) (.plain _ _ rfl)) (by decide) (by rw [hk2]; rfl))
end
section
open Go Go.RowKit
def PathRs (N : Net) (x y : Int) (p : List Int) (ok : Bool) : Prop := (∃ v w k : Nat, x = v ∧ y = w ∧ v < N.ends.length ∧ w < N.ends.length ∧ goodB N = true ∧ gi (dists N w) v = k ∧ p = pth N (dists N w) k v ∧ ok = true) ∨ (∃ v w : Nat, x = v ∧ y = w ∧ v < N.ends.length ∧ w < N.ends.length ∧ goodB N = true ∧ gi (dists N w) v < 0 ∧ p = [] ∧ ok = false) ∨ ((nodeB N x && nodeB N y) = false ∧ p = [] ∧ ok = false)
theorem pathRs_ex (N : Net) (x y : Int) : ∃ p ok, PathRs N x y p ok := by
 cases h : nodeB N x && nodeB N y with
 | false => exact ⟨_, _, .inr (.inr ⟨h, rfl, rfl⟩)⟩
 | true =>
  rw [Bool.and_eq_true] at h
  obtain ⟨v, h1, h2, h3⟩ := nodeB_at h.1
  obtain ⟨w, h4, h5, -⟩ := nodeB_at h.2
  by_cases h0 : 0 ≤ gi (dists N w) v
  ·obtain ⟨k, hk⟩ := Int.eq_ofNat_of_zero_le h0
   exact ⟨_, _, .inl ⟨v, w, k, h1, h4, h2, h5, h3, hk, rfl, rfl⟩⟩
  ·exact ⟨_, _, .inr (.inl ⟨v, w, h1, h4, h2, h5, h3, by omega, rfl, rfl⟩)⟩
theorem dfxDme7 : type_of% (And.intro tab27 (And.intro tab25 (And.intro tab3 (And.intro tab24 (And.intro tab82 (And.intro @if_pos.{1} (And.intro @rowi (And.intro tab35 (And.intro @getDe (And.intro @getDp (And.intro @getDi (And.intro @toNat0 (And.intro @toNat1 @trivial))))))))))))) := And.intro tab27 (And.intro tab25 (And.intro tab3 (And.intro tab24 (And.intro tab82 (And.intro @if_pos.{1} (And.intro @rowi (And.intro tab35 (And.intro @getDe (And.intro @getDp (And.intro @getDi (And.intro @toNat0 (And.intro @toNat1 @trivial))))))))))))
set_option maxRecDepth 8000 in
set_option maxHeartbeats 0 in
theorem implPath_yes (f : NF) (N : Net) (v w k : Nat) (hg : goodB N = true) (hv : v < N.ends.length) (hw : w < N.ends.length) (hk : gi (dists N w) v = k) : DCalls Tryz.prog 8 [.agg (netC f N), .c (.p (.int .i64 v)), .c (.p (.int .i64 w))] (fun rr => rr = [.own false [.sl true 3 1 ((pth N (dists N w) k v).map iC)], .c (.p (.bool true))]) := by
 obtain ⟨hs, hn, hids, hdg⟩ := good_all hg
 have hin : inB (v : Int) 0 ((N.ends.length : Int) - 1) = true := inB_iff.2 (by omega)
 have hin2 : inB (w : Int) 0 ((N.ends.length : Int) - 1) = true := inB_iff.2 (by omega)
 have hdl := (dists_is hs hw).len
 have hvd : v < (dists N w).length := by omega
 refine dcalls_of Tryz.func8 rfl (by rw [Tryz.ntmps8]; simp) fun w0 => ?_
 rw [Tryz.ntmps8]
 have dfx := dfxDme7
 simp only [initE, argsL, Arg.av, netC, endss, ints, ends]
 refine dw_seq (dwR fun K hK => ?_)
 repeat refine evF ?_
 refine aops_end (hK _ (dwK [2, 3, 4] ?_))
 clear hK K
 refine dw_seq ?_
 refine dw_seq (dwR fun K hK => ?_)
 repeat refine evF ?_
 refine clF rfl ⟨rfl, _, rfl⟩ (by omega) (by first | exact may55 | exact may56) (IsNetwork_d ⟨false, f.t1, f.o2, f.t2, false, f.t3, false, f.t4⟩ N hids) ?_
 rintro _ rfl
 repeat refine evF ?_
 have dfx := And.intro dfx (@hg)
 repeat refine evF ?_
 refine cgF rfl rfl ⟨rfl, _, rfl⟩ (by omega) (by first | exact may55 | exact may56) (hasNode_d ⟨false, f.t1, f.o2, f.t2, false, f.t3, false, f.t4⟩ N v (by omega)) ?_
 rintro _ rfl
 repeat refine evF ?_
 have dfx := And.intro dfx (@hin)
 repeat refine evF ?_
 refine cgF rfl rfl ⟨rfl, _, rfl⟩ (by omega) (by first | exact may55 | exact may56) (hasNode_d ⟨false, f.t1, f.o2, f.t2, false, f.t3, false, f.t4⟩ N w (by omega)) ?_
 rintro _ rfl
 repeat refine evF ?_
 have dfx := And.intro dfx (@hin2)
 repeat refine evF ?_
 have dfk := And.intro @hin (And.intro @hg @hin2)
 refine aops_end (hK _ (dwKF [2, 3, 4, 25] ?_))
 clear hK K
 refine dwI (fun hb => ?_) (fun hb => ?_)
 ·cases hb
 ·refine dw_skip ?_
  show DW _ _ _ _ _
  refine dw_seq (dwR fun K hK => ?_)
  repeat refine evF ?_
  refine clF rfl ⟨rfl, _, rfl⟩ (by omega) (by first | exact may57) (distancesFrom_d ⟨false, f.t1, f.o2, f.t2, false, f.t3, false, f.t4⟩ N w hs hw (by omega) hdg) ?_
  rintro _ rfl
  repeat refine evF ?_
  refine aops_end (hK _ (dwK [2, 3, 4, 8] ?_))
  clear hK K
  refine dw_seq ?_
  refine dw_seq (dwR fun K hK => ?_)
  repeat refine evF ?_
  refine aops_end (hK _ (dwK [2, 3, 4, 8, 33] ?_))
  clear hK K
  refine dwI (fun hb => ?_) (fun hb => ?_)
  ·have : gi (dists N w) v < 0 := by simpa using hb
   omega
  ·clear hb
   refine dw_skip ?_
   show DW _ _ _ _ _
   refine dw_seq (dwR fun K hK => ?_)
   repeat refine evF ?_
   refine aops_end (hK _ (dwK [2, 3, 4, 8, 9] ?_))
   clear hK K
   refine dw_seq (dw_block ?_)
   refine dw_nil 9 3 1 (by decide) (by simp only [bunK, C.at, C.put, List.dropLast, List.isPrefixOf, Nat.reduceMul, Nat.reduceLT, Nat.reduceLeDiff, Nat.reduceBEq, Nat.reduceEqDiff, reduceCtorEq, Nat.reduceAdd, ↓reduceIte]) [2, 3, 4, 8, 9] (by simp only [bunK, C.at, C.put, List.dropLast, List.isPrefixOf, Nat.reduceMul, Nat.reduceLT, Nat.reduceLeDiff, Nat.reduceBEq, Nat.reduceEqDiff, reduceCtorEq, Nat.reduceAdd, ↓reduceIte]; exact rfl) ?_
   refine dw_loopP (X := Nat) (fun i => i ≤ k) (fun i => []) (fun i => [((4, 0), ⟨some 3, [.p (.int .i64 (wayN N (dists N w) v i))]⟩), ((9, 0), ⟨none, [.sl true 3 1 ((pth N (dists N w) i v).map iC)]⟩)]) (fun i => k - i) 0 (Nat.zero_le _) (by first | rfl | (simp only [bunK, C.at, C.put, List.dropLast, List.isPrefixOf, Nat.reduceMul, Nat.reduceLT, Nat.reduceLeDiff, Nat.reduceBEq, Nat.reduceEqDiff, reduceCtorEq, Nat.reduceAdd, ↓reduceIte, Int.natCast_zero] <;> rfl)) ?_
   rintro i hi
   intro E hE
   simp only [bunK, C.at, C.put, List.dropLast, List.isPrefixOf, Nat.reduceMul, Nat.reduceLT, Nat.reduceLeDiff, Nat.reduceBEq, Nat.reduceEqDiff, reduceCtorEq, Nat.reduceAdd, ↓reduceIte] at hE
   subst hE
   obtain ⟨hwl, hwd⟩ := wayN_dist hs (dists_is hs hw) hv (by omega) i (by omega)
   refine dw_seq ?_
   refine dw_seq (dwR fun K hK => ?_)
   repeat refine evF ?_
   refine aops_end (hK _ (dwK [2, 3, 4, 8, 9, 36] ?_))
   clear hK K
   refine dwI (fun hb => ?_) (fun hb => ?_)
   ·have hne : wayN N (dists N w) v i ≠ w := by
     intro e
     have : ¬ ((wayN N (dists N w) v i : Nat) : Int) = w := by simpa using hb
     omega
    have hik : i < k := by
     rcases Nat.lt_or_ge i k with h | h
     ·exact h
     ·exact absurd (by rw [show i = k by omega]; exact wayN_end hs (dists_is hs hw) hv hk) hne
    obtain ⟨j, hj1, hj2, hj3, hj4⟩ := prt_step (dists_is hs hw) hwl (by omega)
    have hfs : fstF (gl N.ends (wayN N (dists N w) v i)).length (fun j => gi (dists N w) (nd N (wayN N (dists N w) v i) j) == gi (dists N w) (wayN N (dists N w) v i) - 1) = j := fstF_some hj2 (by simpa using hj3) hj4
    have hgp : (gp (gl N.ends (wayN N (dists N w) v i)) j).1 = ((nd N (wayN N (dists N w) v i) j : Nat) : Int) := by rw [(sym_nd hs hwl hj2).2.2.2.2]
    have hwn : wayN N (dists N w) v (i + 1) = nd N (wayN N (dists N w) v i) j := by rw [wayN, hj1, Int.toNat_natCast]
    have hns : pth N (dists N w) (i + 1) v = pth N (dists N w) i v ++ [(j : Int)] := by rw [pth_take, hj1]
    have hpl := pth_len (N := N) (dists N w) i v
    have hkn : k < N.ends.length := by have := dist_lt hs hw hv; omega
    have hdx := hdg (wayN N (dists N w) v i)
    refine dw_skip ?_
    show DW _ _ _ _ _
    refine dw_block ?_
    refine dw_seq (dwR fun K hK => ?_)
    repeat (apply aops_ev; (focus exact rfl); (focus (simp (disch := first | omega | (intros; contradiction)) only [bunK, bunX, C.at, C.put, List.dropLast, List.isPrefixOf, Nat.reduceMul, Nat.reduceLT, Nat.reduceLeDiff, Nat.reduceBEq, Nat.reduceEqDiff, reduceCtorEq, Nat.reduceAdd, ↓reduceIte, tab27, tab25, tab3, tab24, tab82, if_pos, rowi, tab35, getDe, getDp, getDi, toNat0, toNat1, may58]; exact rfl)))
    refine aops_call rfl ⟨rfl, _, rfl⟩ (by omega) (by first | exact may58) (by simp (disch := first | omega | (intros; contradiction)) only [bunK, bunX, C.at, C.put, List.dropLast, List.isPrefixOf, Nat.reduceMul, Nat.reduceLT, Nat.reduceLeDiff, Nat.reduceBEq, Nat.reduceEqDiff, reduceCtorEq, Nat.reduceAdd, ↓reduceIte, tab27, tab25, tab3, tab24, tab82, if_pos, rowi, tab35, getDe, getDp, getDi, toNat0, toNat1, may58] <;> exact rfl) (IndexFuncE_d f.o2 f.t2 (gl N.ends (wayN N (dists N w) v i)) 59 [[.sl true 3 1 ((dists N w).map iC)], [.p (.int .i64 (wayN N (dists N w) v i))]] (fun j => gi (dists N w) (nd N (wayN N (dists N w) v i) j) == gi (dists N w) (wayN N (dists N w) v i) - 1) (by omega) may59 fun j hj => pathClo_d true 3 (dists N w) _ (nd N (wayN N (dists N w) v i) j) (gp (gl N.ends (wayN N (dists N w) v i)) j) (by omega) (by rw [(sym_nd hs hwl hj).2.2.2.2]) (by rw [hdl]; exact (sym_nd hs hwl hj).1) (dist_in hs hn.2 hw hwl)) ?_
    rintro _ rfl
    repeat (apply aops_ev; (focus exact rfl); (focus (simp (disch := first | omega | (intros; contradiction)) only [bunK, bunX, C.at, C.put, List.dropLast, List.isPrefixOf, Nat.reduceMul, Nat.reduceLT, Nat.reduceLeDiff, Nat.reduceBEq, Nat.reduceEqDiff, reduceCtorEq, Nat.reduceAdd, ↓reduceIte, tab27, tab25, tab3, tab24, tab82, if_pos, rowi, tab35, getDe, getDp, getDi, toNat0, toNat1, may58]; exact rfl)))
    have dfx := And.intro dfx (@hfs)
    repeat refine evF ?_
    have dfk := @hfs
    refine aops_end (hK _ (dwKF [2, 3, 4, 8, 9, 10] ?_))
    clear hK K
    refine dw_seq (dwR fun K hK => ?_)
    repeat refine evF ?_
    have dfk := @snoc_iC
    refine aops_end (hK _ (dwKF [2, 3, 4, 8, 9, 10] ?_))
    clear hK K
    have dfx := And.intro dfx (And.intro @Int.toNat_natCast @hgp)
    refine dwR fun K hK => ?_
    repeat refine evF ?_
    have dfk := And.intro @hns @hwn
    refine aops_end (hK _ ?_)
    clear hK K
    show ∃ x, _ ∧ _ ∧ Weak _ _
    refine ⟨i + 1, ?_, ?_, weakFk [2, 3, 4, 8, 9]⟩
    ·omega
    ·omega
   ·have hie : i = k := by
     have : ((wayN N (dists N w) v i : Nat) : Int) = w := by simpa using hb
     have e : wayN N (dists N w) v i = w := by omega
     rw [e, (dists_is hs hw).root] at hwd
     omega
    refine dw_leave3 ?_
    refine dw_keep [9] (by simp only [bunK, C.at, C.put, List.dropLast, List.isPrefixOf, Nat.reduceMul, Nat.reduceLT, Nat.reduceLeDiff, Nat.reduceBEq, Nat.reduceEqDiff, reduceCtorEq, Nat.reduceAdd, ↓reduceIte]; exact rfl) ?_
    refine dw_seq (dwR fun K hK => ?_)
    repeat refine evF ?_
    refine aops_end (hK _ (dwK [6, 7] ?_))
    clear hK K
    exact dw_ret (fin_ret Tryz.results8 (.two (.own _ _ _ _ rfl rfl (own1 (owned_ints _ _))) (.plain _ _ rfl)) (by decide) (by rw [hie]))
set_option maxRecDepth 8000 in
set_option maxHeartbeats 0 in
theorem implPath_neg (f : NF) (N : Net) (v w : Nat) (hg : goodB N = true) (hv : v < N.ends.length) (hw : w < N.ends.length) (hk : gi (dists N w) v < 0) : DCalls Tryz.prog 8 [.agg (netC f N), .c (.p (.int .i64 v)), .c (.p (.int .i64 w))] (fun rr => rr = [.own false [.sl true 3 1 (([] : List Int).map iC)], .c (.p (.bool false))]) := by
 obtain ⟨hs, hn, hids, hdg⟩ := good_all hg
 have hin : inB (v : Int) 0 ((N.ends.length : Int) - 1) = true := inB_iff.2 (by omega)
 have hin2 : inB (w : Int) 0 ((N.ends.length : Int) - 1) = true := inB_iff.2 (by omega)
 have hdl := (dists_is hs hw).len
 have hvd : v < (dists N w).length := by omega
 refine dcalls_of Tryz.func8 rfl (by rw [Tryz.ntmps8]; simp) fun w0 => ?_
 rw [Tryz.ntmps8]
 have dfx := dfxDme7
 simp only [initE, argsL, Arg.av, netC, endss, ints, ends]
 refine dw_seq (dwR fun K hK => ?_)
 repeat refine evF ?_
 refine aops_end (hK _ (dwK [2, 3, 4] ?_))
 clear hK K
 refine dw_seq ?_
 refine dw_seq (dwR fun K hK => ?_)
 repeat refine evF ?_
 refine clF rfl ⟨rfl, _, rfl⟩ (by omega) (by first | exact may55 | exact may56) (IsNetwork_d ⟨false, f.t1, f.o2, f.t2, false, f.t3, false, f.t4⟩ N hids) ?_
 rintro _ rfl
 repeat refine evF ?_
 have dfx := And.intro dfx (@hg)
 repeat refine evF ?_
 refine cgF rfl rfl ⟨rfl, _, rfl⟩ (by omega) (by first | exact may55 | exact may56) (hasNode_d ⟨false, f.t1, f.o2, f.t2, false, f.t3, false, f.t4⟩ N v (by omega)) ?_
 rintro _ rfl
 repeat refine evF ?_
 have dfx := And.intro dfx (@hin)
 repeat refine evF ?_
 refine cgF rfl rfl ⟨rfl, _, rfl⟩ (by omega) (by first | exact may55 | exact may56) (hasNode_d ⟨false, f.t1, f.o2, f.t2, false, f.t3, false, f.t4⟩ N w (by omega)) ?_
 rintro _ rfl
 repeat refine evF ?_
 have dfx := And.intro dfx (@hin2)
 repeat refine evF ?_
 have dfk := And.intro @hin (And.intro @hg @hin2)
 refine aops_end (hK _ (dwKF [2, 3, 4, 25] ?_))
 clear hK K
 refine dwI (fun hb => ?_) (fun hb => ?_)
 ·cases hb
 ·refine dw_skip ?_
  show DW _ _ _ _ _
  refine dw_seq (dwR fun K hK => ?_)
  repeat refine evF ?_
  refine clF rfl ⟨rfl, _, rfl⟩ (by omega) (by first | exact may57) (distancesFrom_d ⟨false, f.t1, f.o2, f.t2, false, f.t3, false, f.t4⟩ N w hs hw (by omega) hdg) ?_
  rintro _ rfl
  repeat refine evF ?_
  refine aops_end (hK _ (dwK [2, 3, 4, 8] ?_))
  clear hK K
  refine dw_seq ?_
  refine dw_seq (dwR fun K hK => ?_)
  repeat refine evF ?_
  refine aops_end (hK _ (dwK [2, 3, 4, 8, 33] ?_))
  clear hK K
  refine dwI (fun hb => ?_) (fun hb => ?_)
  ·refine dw_seq (dwR fun K hK => ?_)
   repeat refine evF ?_
   refine aops_end (hK _ (dwK [6, 7] ?_))
   clear hK K
   refine dw_nil 6 3 1 (by decide) (by simp only [bunK, C.at, C.put, List.dropLast, List.isPrefixOf, Nat.reduceMul, Nat.reduceLT, Nat.reduceLeDiff, Nat.reduceBEq, Nat.reduceEqDiff, reduceCtorEq, Nat.reduceAdd, ↓reduceIte]) [6, 7] (by simp only [bunK, C.at, C.put, List.dropLast, List.isPrefixOf, Nat.reduceMul, Nat.reduceLT, Nat.reduceLeDiff, Nat.reduceBEq, Nat.reduceEqDiff, reduceCtorEq, Nat.reduceAdd, ↓reduceIte]; exact rfl) ?_
   exact dw_ret (fin_ret Tryz.results8 (.two (.own _ _ _ _ rfl rfl (own1 (owned_ints _ []))) (.plain _ _ rfl)) (by decide) rfl)
  ·have : ¬ gi (dists N w) v < 0 := by simpa using hb
   omega
set_option maxRecDepth 8000 in
set_option maxHeartbeats 0 in
theorem implPath_no (f : NF) (N : Net) (x y : Int) (hi : N.ids.length ≤ 2097152) (hl : N.ends.length ≤ 2097152) (h : (nodeB N x && nodeB N y) = false) : DCalls Tryz.prog 8 [.agg (netC f N), .c (.p (.int .i64 x)), .c (.p (.int .i64 y))] (fun rr => rr = [.own false [.sl true 3 1 (([] : List Int).map iC)], .c (.p (.bool false))]) := by
 refine dcalls_of Tryz.func8 rfl (by rw [Tryz.ntmps8]; simp) fun w0 => ?_
 rw [Tryz.ntmps8]
 have dfx := dfxDme7
 simp only [initE, argsL, Arg.av, netC, endss, ints, ends]
 refine dw_seq (dwR fun K hK => ?_)
 repeat refine evF ?_
 refine aops_end (hK _ (dwK [2, 3, 4] ?_))
 clear hK K
 refine dw_seq ?_
 refine dw_seq (dwR fun K hK => ?_)
 repeat refine evF ?_
 refine clF rfl ⟨rfl, _, rfl⟩ (by omega) (by first | exact may55 | exact may56) (IsNetwork_d ⟨false, f.t1, f.o2, f.t2, false, f.t3, false, f.t4⟩ N hi) ?_
 rintro _ rfl
 repeat refine evF ?_
 obtain hg | hg := Bool.eq_false_or_eq_true (goodB N)
 ·have dfx := And.intro dfx (@hg)
  repeat refine evF ?_
  refine cgF rfl rfl ⟨rfl, _, rfl⟩ (by omega) (by first | exact may55 | exact may56) (hasNode_d ⟨false, f.t1, f.o2, f.t2, false, f.t3, false, f.t4⟩ N x hl) ?_
  rintro _ rfl
  repeat refine evF ?_
  obtain h1 | h1 := Bool.eq_false_or_eq_true (inB x 0 ((N.ends.length : Int) - 1))
  ·have h2 : inB y 0 ((N.ends.length : Int) - 1) = false := by
    unfold nodeB at h
    rw [hg, h1] at h
    simpa using h
   have dfx := And.intro dfx (@h1)
   repeat refine evF ?_
   refine cgF rfl rfl ⟨rfl, _, rfl⟩ (by omega) (by first | exact may55 | exact may56) (hasNode_d ⟨false, f.t1, f.o2, f.t2, false, f.t3, false, f.t4⟩ N y hl) ?_
   rintro _ rfl
   repeat refine evF ?_
   have dfx := And.intro dfx (@h2)
   repeat refine evF ?_
   have dfk := And.intro @hg (And.intro @h1 @h2)
   refine aops_end (hK _ (dwKF [25] ?_))
   clear hK K
   refine dwI (fun hb => ?_) (fun hb => ?_)
   ·refine dw_seq (dwR fun K hK => ?_)
    repeat refine evF ?_
    refine aops_end (hK _ (dwK [6, 7] ?_))
    clear hK K
    refine dw_nil 6 3 1 (by decide) (by simp only [bunK, C.at, C.put, List.dropLast, List.isPrefixOf, Nat.reduceMul, Nat.reduceLT, Nat.reduceLeDiff, Nat.reduceBEq, Nat.reduceEqDiff, reduceCtorEq, Nat.reduceAdd, ↓reduceIte]) [6, 7] (by simp only [bunK, C.at, C.put, List.dropLast, List.isPrefixOf, Nat.reduceMul, Nat.reduceLT, Nat.reduceLeDiff, Nat.reduceBEq, Nat.reduceEqDiff, reduceCtorEq, Nat.reduceAdd, ↓reduceIte]; exact rfl) ?_
    exact dw_ret (fin_ret Tryz.results8 (.two (.own _ _ _ _ rfl rfl (own1 (owned_ints _ []))) (.plain _ _ rfl)) (by decide) rfl)
   ·cases hb
  ·have dfx := And.intro dfx (@h1)
   repeat refine evF ?_
   have dfx := And.intro dfx (@h1)
   refine csF ?_
   repeat refine evF ?_
   have dfx := And.intro dfx (@h1)
   repeat refine evF ?_
   have dfk := And.intro @hg @h1
   refine aops_end (hK _ (dwKF [25] ?_))
   clear hK K
   refine dwI (fun hb => ?_) (fun hb => ?_)
   ·refine dw_seq (dwR fun K hK => ?_)
    repeat refine evF ?_
    refine aops_end (hK _ (dwK [6, 7] ?_))
    clear hK K
    refine dw_nil 6 3 1 (by decide) (by simp only [bunK, C.at, C.put, List.dropLast, List.isPrefixOf, Nat.reduceMul, Nat.reduceLT, Nat.reduceLeDiff, Nat.reduceBEq, Nat.reduceEqDiff, reduceCtorEq, Nat.reduceAdd, ↓reduceIte]) [6, 7] (by simp only [bunK, C.at, C.put, List.dropLast, List.isPrefixOf, Nat.reduceMul, Nat.reduceLT, Nat.reduceLeDiff, Nat.reduceBEq, Nat.reduceEqDiff, reduceCtorEq, Nat.reduceAdd, ↓reduceIte]; exact rfl) ?_
    exact dw_ret (fin_ret Tryz.results8 (.two (.own _ _ _ _ rfl rfl (own1 (owned_ints _ []))) (.plain _ _ rfl)) (by decide) rfl)
   ·cases hb
 ·have dfx := And.intro dfx (@hg)
  repeat refine evF ?_
  have dfx := And.intro dfx (@hg)
  refine csF ?_
  repeat refine evF ?_
  have dfx := And.intro dfx (@hg)
  repeat refine evF ?_
  have dfx := And.intro dfx (@hg)
  refine csF ?_
  repeat refine evF ?_
  have dfx := And.intro dfx (@hg)
  repeat refine evF ?_
  have dfk := @hg
  refine aops_end (hK _ (dwKF [25] ?_))
  clear hK K
  refine dwI (fun hb => ?_) (fun hb => ?_)
  ·refine dw_seq (dwR fun K hK => ?_)
   repeat refine evF ?_
   refine aops_end (hK _ (dwK [6, 7] ?_))
   clear hK K
   refine dw_nil 6 3 1 (by decide) (by simp only [bunK, C.at, C.put, List.dropLast, List.isPrefixOf, Nat.reduceMul, Nat.reduceLT, Nat.reduceLeDiff, Nat.reduceBEq, Nat.reduceEqDiff, reduceCtorEq, Nat.reduceAdd, ↓reduceIte]) [6, 7] (by simp only [bunK, C.at, C.put, List.dropLast, List.isPrefixOf, Nat.reduceMul, Nat.reduceLT, Nat.reduceLeDiff, Nat.reduceBEq, Nat.reduceEqDiff, reduceCtorEq, Nat.reduceAdd, ↓reduceIte]; exact rfl) ?_
   exact dw_ret (fin_ret Tryz.results8 (.two (.own _ _ _ _ rfl rfl (own1 (owned_ints _ []))) (.plain _ _ rfl)) (by decide) rfl)
  ·cases hb
theorem implPath_d (f : NF) (N : Net) (x y : Int) (hi : N.ids.length ≤ 2097152) (hl : N.ends.length ≤ 2097152) {p : List Int} {ok : Bool} (h : PathRs N x y p ok) : DCalls Tryz.prog 8 [.agg (netC f N), .c (.p (.int .i64 x)), .c (.p (.int .i64 y))] (fun rr => rr = [.own false [.sl true 3 1 (p.map iC)], .c (.p (.bool ok))]) := by
 rcases h with ⟨v, w, k, rfl, rfl, hv, hw, hg, hk, rfl, rfl⟩ | ⟨v, w, rfl, rfl, hv, hw, hg, hk, rfl, rfl⟩ | ⟨h, rfl, rfl⟩
 ·exact implPath_yes f N v w k hg hv hw hk
 ·exact implPath_neg f N v w hg hv hw hk
 ·exact implPath_no f N x y hi hl h
end
section
open Go Go.RowKit
def fl1 (n k : Nat) : List Int := List.replicate k (-1) ++ List.replicate (n - k) 0
theorem fl1_zero (n : Nat) : fl1 n 0 = List.replicate n 0 := rfl
theorem fl1_all (n : Nat) : fl1 n n = List.replicate n (-1) := by simp [fl1]
theorem fl1_len {n k : Nat} (h : k ≤ n) : (fl1 n k).length = n := by simp [fl1]; omega
theorem fl1_set {n k : Nat} (h : k < n) : (fl1 n k).set k (-1) = fl1 n (k + 1) := by
 unfold fl1
 rw [List.set_append_right _ _ (by simp), List.length_replicate, Nat.sub_self, show n - k = (n - (k + 1)) + 1 by omega, List.replicate_succ, List.set_cons_zero, List.replicate_succ', List.append_assoc]
 rfl
theorem near_gi {N : Net} {w i : Nat} (h : i < (gl N.ends w).length) : gi (nearL N w (gl N.ends w).length) i = (gp (gl N.ends w) i).1 := by
 have hl : i < (nearL N w (gl N.ends w).length).length := by rw [near_len (Nat.le_refl _)]; exact h
 rw [gi_lt hl, gp_lt h]
 simp [nearL]
theorem zI_at (done q : List Nat) (w : Nat) : gi (zI (done ++ w :: q)) done.length = w := by
 simp [gi, zI]
def meFromSt12 : Nat → Stat
 | 0 => ⟨[2], [(2, 1)], [], [35], [], []⟩
 | 1 => ⟨[7], [], [], [36], [], []⟩
 | 2 => ⟨[8], [], [], [37], [], []⟩
 | 3 => ⟨[36, 37], [(7, 1)], [], [38], [], []⟩
 | 4 => ⟨[38], [(7, 2)], [], [39], [], []⟩
 | 5 => ⟨[35, 39], [], [], [40], [], []⟩
 | 6 => ⟨[40], [(40, 1)], [], [41], [], []⟩
 | 7 => ⟨[], [], [], [42], [], []⟩
 | _ => ⟨[], [], [], [], [], []⟩
theorem dfxDms : type_of% (And.intro tab27 (And.intro tab25 (And.intro tab3 (And.intro tab24 (And.intro tab82 (And.intro @if_pos.{1} (And.intro @rowi (And.intro tab35 (And.intro @getDe (And.intro @getDp (And.intro @getDi (And.intro @toNat0 (And.intro @toNat1 @trivial))))))))))))) := And.intro tab27 (And.intro tab25 (And.intro tab3 (And.intro tab24 (And.intro tab82 (And.intro @if_pos.{1} (And.intro @rowi (And.intro tab35 (And.intro @getDe (And.intro @getDp (And.intro @getDi (And.intro @toNat0 (And.intro @toNat1 @trivial))))))))))))
set_option maxRecDepth 8000 in
set_option maxHeartbeats 0 in
theorem meFrom_d (f : NF) (N : Net) (v : Nat) (hs : Sym N.ends) (hv : v < N.ends.length) (hn : N.ends.length ≤ 1000) (hdg : ∀ a, (gl N.ends a).length ≤ 1000) : DCalls Tryz.prog 61 [.agg (netC f N), .c (.p (.int .i64 v))] (fun r => r = [.own false [.sl true 3 1 ((dists N v).map iC)]]) := by
 have hz := fl1_zero N.ends.length
 refine dcalls_of Tryz.func61 rfl (by rw [Tryz.ntmps61]; simp) fun w0 => ?_
 rw [Tryz.ntmps61]
 have dfx := dfxDms
 simp only [initE, argsL, Arg.av, netC, endss, ints, ends]
 refine dw_seq (dwR fun K hK => ?_)
 repeat refine evF ?_
 refine aops_end (hK _ (dwK [1, 2] ?_))
 clear hK K
 refine dw_seq (dwR fun K hK => ?_)
 repeat refine evF ?_
 have dfk := And.intro @zrows (Eq.symm hz)
 refine aops_end (hK _ (dwKF [1, 2, 5] ?_))
 clear hK K
 refine dw_seq ?_
 have hl0 := fl1_len (Nat.zero_le N.ends.length)
 refine dw_seq (dwR fun K hK => ?_)
 repeat refine evF ?_
 have dfk := @hl0
 refine aops_end (hK _ (dwKF [1, 2, 5, 16, 17] ?_))
 clear hK K
 refine dw_block ?_
 refine dw_loopP (X := Nat) (fun k => k ≤ N.ends.length) (fun k => [(17, .c (.p (.int .i64 k)))]) (fun k => [((5, 0), ⟨none, [.sl true 3 1 ((fl1 N.ends.length k).map iC)]⟩)]) (fun k => N.ends.length - k) 0 (Nat.zero_le _) (by first | rfl | (simp only [bunK, C.at, C.put, List.dropLast, List.isPrefixOf, Nat.reduceMul, Nat.reduceLT, Nat.reduceLeDiff, Nat.reduceBEq, Nat.reduceEqDiff, reduceCtorEq, Nat.reduceAdd, ↓reduceIte, Int.natCast_zero] <;> rfl)) ?_
 rintro k hk
 intro E hE
 simp only [bunK, C.at, C.put, List.dropLast, List.isPrefixOf, Nat.reduceMul, Nat.reduceLT, Nat.reduceLeDiff, Nat.reduceBEq, Nat.reduceEqDiff, reduceCtorEq, Nat.reduceAdd, ↓reduceIte] at hE
 subst hE
 have hlk := fl1_len hk
 refine dw_seq (dwR fun K hK => ?_)
 repeat refine evF ?_
 refine aops_end (hK _ (dwK [1, 2, 5, 16, 17, 18] ?_))
 clear hK K
 refine dw_seq (dwI (fun hb => ?_) (fun hb => ?_))
 ·have hkl : k < N.ends.length := by simpa using hb
  have hst := fl1_set hkl
  refine dw_skip ?_
  show DW _ _ _ _ _
  refine dw_seq (dw_block ?_)
  refine dw_seq (dwR fun K hK => ?_)
  repeat refine evF ?_
  refine aops_end (hK _ (dwK [1, 2, 5, 6, 16, 17] ?_))
  clear hK K
  refine dwR fun K hK => ?_
  repeat refine evF ?_
  have dfk := And.intro @puti @hst
  refine aops_end (hK _ (dwKF [1, 2, 5, 16, 17] ?_))
  clear hK K
  refine dwR fun K hK => ?_
  repeat refine evF ?_
  have dfk := @castS
  refine aops_end (hK _ ?_)
  clear hK K
  show ∃ x, _ ∧ _ ∧ Weak _ _
  refine ⟨k + 1, ?_, ?_, weakFk [1, 2, 5, 16, 17]⟩
  ·omega
  ·omega
 ·have hk2 : k = N.ends.length := by
   have : ¬ k < N.ends.length := by simpa using hb
   omega
  subst hk2
  have hfa := fl1_all N.ends.length
  refine dw_leave3 ?_
  refine dw_keep [1, 2, 5] (by simp only [bunK, C.at, C.put, List.dropLast, List.isPrefixOf, Nat.reduceMul, Nat.reduceLT, Nat.reduceLeDiff, Nat.reduceBEq, Nat.reduceEqDiff, reduceCtorEq, Nat.reduceAdd, ↓reduceIte]; exact rfl) ?_
  refine dw_seq (dwR fun K hK => ?_)
  repeat refine evF ?_
  have dfk := And.intro @puti @hfa
  refine aops_end (hK _ (dwKF [1, 2, 5] ?_))
  clear hK K
  refine dw_seq (dwR fun K hK => ?_)
  repeat refine evF ?_
  refine aops_end (hK _ (dwK [2, 5, 7] ?_))
  clear hK K
  refine dw_seq ?_
  refine dw_seq (dwR fun K hK => ?_)
  repeat refine evF ?_
  refine aops_end (hK _ (dwK [2, 5, 7, 8] ?_))
  clear hK K
  refine dw_block ?_
  refine dw_loopP (X := List Int × List Nat × List Nat) (fun x => BfsI N v x.1 x.2.1 x.2.2) (fun x => [(8, .c (.p (.int .i64 x.2.1.length)))]) (fun x => [((5, 0), ⟨none, [.sl true 3 1 (x.1.map iC)]⟩), ((7, 0), ⟨none, [.sl true 3 1 ((zI (x.2.1 ++ x.2.2)).map iC)]⟩)]) (fun x => N.ends.length - x.2.1.length) ((List.replicate N.ends.length (-1)).set v 0, [], [v]) (BfsI.start hv) (by first | rfl | (simp only [bunK, C.at, C.put, List.dropLast, List.isPrefixOf, Nat.reduceMul, Nat.reduceLT, Nat.reduceLeDiff, Nat.reduceBEq, Nat.reduceEqDiff, reduceCtorEq, Nat.reduceAdd, ↓reduceIte, Int.natCast_zero] <;> rfl)) ?_
  rintro ⟨out, done, q⟩ hI
  intro E hE
  simp only [bunK, C.at, C.put, List.dropLast, List.isPrefixOf, Nat.reduceMul, Nat.reduceLT, Nat.reduceLeDiff, Nat.reduceBEq, Nat.reduceEqDiff, reduceCtorEq, Nat.reduceAdd, ↓reduceIte] at hE
  subst hE
  dsimp only at hI ⊢
  have hzl0 : (zI (done ++ q)).length = done.length + q.length := by simp [zI]
  refine dw_seq ?_
  have dfx := And.intro dfx (@hzl0)
  refine dw_seq (dwR fun K hK => ?_)
  repeat refine evF ?_
  have dfk := @hzl0
  refine aops_end (hK _ (dwKF [2, 5, 7, 8, 32] ?_))
  clear hK K
  refine dwI (fun hb => ?_) (fun hb => ?_)
  ·obtain ⟨w, q, rfl⟩ : ∃ w q', q = w :: q' := by
    cases q with
    | nil => simp at hb
    | cons w q => exact ⟨w, q, rfl⟩
   obtain ⟨hw, hw0⟩ := hI.at0
   have hzl : done.length < (zI (done ++ w :: q)).length := by simp [zI]
   have hz1 := zI_at done q w
   have hdw := hdg w
   have hnl := near_len (N := N) (v := w) (Nat.le_refl (gl N.ends w).length)
   have hll := hI.len_le
   rw [List.length_cons] at hll
   refine dw_skip ?_
   show DW _ _ _ _ _
   refine dw_seq (dw_block ?_)
   have dfx := And.intro dfx (And.intro @meFromSt12.eq_def @hz1)
   refine dw_seq (dwRD meFromSt12 (fun j r => match j with | 5 => r = [.own false [.sl true 3 1 ((nearL N w (gl N.ends w).length).map iC)]] | _ => True) fun K hK => ?_)
   repeat refine dvF ?_
   have dfx := And.intro dfx (@meFromSt12.eq_def)
   refine dcF rfl ⟨rfl, _, rfl⟩ (by omega) (by first | exact may120) (neNear_d ⟨false, f.t1, f.o2, f.t2, false, f.t3, false, f.t4⟩ N w hw (by omega)) ?_
   rintro _ rfl
   repeat refine dvF ?_
   have dfx := And.intro dfx (And.intro @meFromSt12.eq_def @hnl)
   repeat refine dvF ?_
   have dfk := @hnl
   refine dops_end (hK _ (dwKF [2, 5, 7, 8, 40, 41, 42] ?_))
   clear hK K
   refine dw_block ?_
   refine dw_loopP (X := List Int × List Nat × Nat) (fun x => BfsJ N v x.1 done w x.2.1 x.2.2 ∧ x.2.2 ≤ (gl N.ends w).length) (fun x => [(42, .c (.p (.int .i64 x.2.2)))]) (fun x => [((5, 0), ⟨none, [.sl true 3 1 (x.1.map iC)]⟩), ((7, 0), ⟨none, [.sl true 3 1 ((zI (done ++ w :: x.2.1)).map iC)]⟩)]) (fun x => (gl N.ends w).length - x.2.2) (out, q, 0) ⟨hI.pop, Nat.zero_le _⟩ (by first | rfl | (simp only [bunK, C.at, C.put, List.dropLast, List.isPrefixOf, Nat.reduceMul, Nat.reduceLT, Nat.reduceLeDiff, Nat.reduceBEq, Nat.reduceEqDiff, reduceCtorEq, Nat.reduceAdd, ↓reduceIte, Int.natCast_zero] <;> rfl)) ?_
   rintro ⟨o2, q2, i⟩ ⟨hJ, hi⟩
   intro E hE
   simp only [bunK, C.at, C.put, List.dropLast, List.isPrefixOf, Nat.reduceMul, Nat.reduceLT, Nat.reduceLeDiff, Nat.reduceBEq, Nat.reduceEqDiff, reduceCtorEq, Nat.reduceAdd, ↓reduceIte] at hE
   subst hE
   dsimp only at hJ hi ⊢
   refine dw_seq (dwR fun K hK => ?_)
   repeat refine evF ?_
   refine aops_end (hK _ (dwK [2, 5, 7, 8, 40, 41, 42, 43] ?_))
   clear hK K
   refine dw_seq (dwI (fun hb => ?_) (fun hb => ?_))
   ·have hil : i < (gl N.ends w).length := by simpa [hnl] using hb
    obtain ⟨hx, -, -, -, hgp⟩ := sym_nd hs hw hil
    have hg1 : gi (nearL N w (gl N.ends w).length) i = ((nd N w i : Nat) : Int) := by rw [near_gi hil, hgp]
    have hin : i < (nearL N w (gl N.ends w).length).length := by omega
    have hol := hJ.base.len
    have hxo : nd N w i < o2.length := by rw [hol]; exact hx
    have hwo : w < o2.length := by rw [hol]; exact hw
    have hb1 := hJ.base.bnd w hw
    have hb2 := hJ.base.low w hw
    have hb3 := hJ.base.len_le
    rw [List.length_cons] at hb3
    have hzq : (zI (done ++ w :: q2)).length = done.length + (q2.length + 1) := by simp [zI]
    have hzd : done.length < (zI (done ++ w :: q2)).length := by omega
    have hz2 := zI_at done q2 w
    have happ : zI (done ++ w :: q2) ++ [((nd N w i : Nat) : Int)] = zI (done ++ w :: (q2 ++ [nd N w i])) := by simp [zI]
    refine dw_skip ?_
    show DW _ _ _ _ _
    refine dw_join (X := List Int × List Nat) (fun z => BfsJ N v z.1 done w z.2 (i + 1)) (fun z => mkE 68 [(2, .box), (5, .own false 1), (7, .own false 1), (8, .c (.p (.int .i64 (done.length : Int)))), (40, .own false 1), (41, .c (.p (.int .i64 ((gl N.ends w).length : Int)))), (42, .c (.p (.int .i64 i)))] [((2, 0), ⟨some 27, [.sl false f.t1 1 (N.ends.map fun es => [.sl f.o2 f.t2 2 (es.map eC)]), .sl false f.t3 1 (N.ids.map iC), .sl false f.t4 1 (N.inputs.map iC)]⟩), ((5, 0), ⟨none, [.sl true 3 1 (z.1.map iC)]⟩), ((7, 0), ⟨none, [.sl true 3 1 ((zI (done ++ w :: z.2)).map iC)]⟩), ((40, 0), ⟨none, [.sl true 3 1 ((nearL N w (gl N.ends w).length).map iC)]⟩)]) ?_ ?_
    ·refine dw_block ?_
     refine dw_seq (dwR fun K hK => ?_)
     repeat refine evF ?_
     have dfk := @hg1
     refine aops_end (hK _ (dwKF [2, 5, 7, 8, 10, 40, 41, 42] ?_))
     clear hK K
     refine dw_seq (dwR fun K hK => ?_)
     repeat refine evF ?_
     refine aops_end (hK _ (dwK [2, 5, 7, 8, 10, 40, 41, 42, 50] ?_))
     clear hK K
     refine dwI (fun hb => ?_) (fun hb => ?_)
     ·have h0 : gi o2 (nd N w i) < 0 := by simpa using hb
      have dfx := And.intro dfx (And.intro @hz2 @Int.toNat_natCast)
      refine dw_seq (dwR fun K hK => ?_)
      repeat refine evF ?_
      have dfk := @puti
      refine aops_end (hK _ (dwKF [2, 5, 7, 8, 10, 40, 41, 42] ?_))
      clear hK K
      refine dwR fun K hK => ?_
      repeat refine evF ?_
      refine aops_end (hK _ ?_)
      clear hK K
      show ∃ x, _ ∧ Weak _ _
      refine ⟨(o2.set (nd N w i) (gi o2 w + 1), q2 ++ [nd N w i]), ?_, (weak_keep _ [2, 5, 7, 8, 40, 41, 42]).trans (Weak.of_eq (by simp only [bunK, C.at, C.put, List.dropLast, List.isPrefixOf, Nat.reduceMul, Nat.reduceLT, Nat.reduceLeDiff, Nat.reduceBEq, Nat.reduceEqDiff, reduceCtorEq, Nat.reduceAdd, ↓reduceIte , snoc_iC, happ] <;> exact rfl))⟩
      exact hJ.push hs hil h0
     ·have h0 : 0 ≤ gi o2 (nd N w i) := by simpa using hb
      refine dw_skip ?_
      show ∃ x, _ ∧ Weak _ _
      refine ⟨(o2, q2), ?_, (weak_keep _ [2, 5, 7, 8, 40, 41, 42]).trans (Weak.of_eq (by simp only [bunK, C.at, C.put, List.dropLast, List.isPrefixOf, Nat.reduceMul, Nat.reduceLT, Nat.reduceLeDiff, Nat.reduceBEq, Nat.reduceEqDiff, reduceCtorEq, Nat.reduceAdd, ↓reduceIte] <;> exact rfl))⟩
      exact hJ.skip hs hil h0
    ·rintro ⟨o3, q3⟩ hJ3
     dsimp only at hJ3 ⊢
     refine dwR fun K hK => ?_
     repeat refine evF ?_
     have dfk := @castS
     refine aops_end (hK _ ?_)
     clear hK K
     show ∃ x, _ ∧ _ ∧ Weak _ _
     refine ⟨(o3, q3, i + 1), ?_, ?_, weakFk [2, 5, 7, 8, 40, 41, 42]⟩
     ·exact ⟨hJ3, hil⟩
     ·dsimp only; omega
   ·have hil : i = (gl N.ends w).length := by
     have : ¬ (i : Int) < ((gl N.ends w).length : Int) := by simpa [hnl] using hb
     omega
    subst hil
    have hD := hJ.done
    have happ : done ++ w :: q2 = (done ++ [w]) ++ q2 := by simp
    have hdl : ((done.length : Int) + 1) = ((done ++ [w]).length : Int) := by simp
    refine dw_leave3 ?_
    refine dw_keep [2, 5, 7, 8] (by simp only [bunK, C.at, C.put, List.dropLast, List.isPrefixOf, Nat.reduceMul, Nat.reduceLT, Nat.reduceLeDiff, Nat.reduceBEq, Nat.reduceEqDiff, reduceCtorEq, Nat.reduceAdd, ↓reduceIte]; exact rfl) ?_
    refine dwR fun K hK => ?_
    repeat refine evF ?_
    have dfk := And.intro @happ @hdl
    refine aops_end (hK _ ?_)
    clear hK K
    show ∃ x, _ ∧ _ ∧ Weak _ _
    refine ⟨(o2, done ++ [w], q2), ?_, ?_, weakFk [2, 5, 7, 8]⟩
    ·exact hD
    ·have := hD.len_le
     dsimp only
     rw [List.length_append] at this ⊢
     simp only [List.length_cons, List.length_nil] at this ⊢
     omega
  ·have hq : q = [] := by
    cases q with
    | nil => rfl
    | cons a q => simp at hb; omega
   subst hq
   have hdi := hI.dist.eq hs
   refine dw_leave3 ?_
   refine dw_keep [5] (by simp only [bunK, C.at, C.put, List.dropLast, List.isPrefixOf, Nat.reduceMul, Nat.reduceLT, Nat.reduceLeDiff, Nat.reduceBEq, Nat.reduceEqDiff, reduceCtorEq, Nat.reduceAdd, ↓reduceIte]; exact rfl) ?_
   refine dw_seq (dwR fun K hK => ?_)
   repeat refine evF ?_
   refine aops_end (hK _ (dwK [4] ?_))
   clear hK K
   exact dw_ret (fin_ret Tryz.results61 (.one (.own _ _ _ _ rfl rfl (own1 (owned_ints _ _)))) (by decide) (by rw [hdi]))
end
end Go.Proofs.YtdiiggpohcjppaaGreat
