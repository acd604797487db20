/- laws.FnDistances over data -/
import Derived.Test.YtdiiggpohcjppaaGreatCJn35
import Derived.Test.YtdiiggpohcjppaaGreatCJn45
import Derived.Test.YtdiiggpohcjppaaGreatCJn42
import Derived.Test.YtdiiggpohcjppaaGreatCNob
import Derived.Test.YtdiiggpohcjppaaGreatCJn44
import Derived.Test.YtdiiggpohcjppaaGreatCLwb
import Derived.Test.YtdiiggpohcjppaaGreatCJn27
set_option linter.unusedSimpArgs false
set_option linter.unusedVariables false
namespace Go.Proofs.YtdiiggpohcjppaaGreat
open Go Go.RowKit
def fnDistancesSt12 : Nat → Stat
 | 0 => ⟨[17], [], [], [113], [], []⟩
 | 1 => ⟨[113], [], [], [114], [], []⟩
 | 2 => ⟨[114], [], [], [115], [], []⟩
 | 3 => ⟨[8, 115], [], [], [116], [], []⟩
 | 4 => ⟨[116, 115], [(8, 1)], [], [117], [], []⟩
 | 5 => ⟨[12, 115], [], [], [118], [], []⟩
 | 6 => ⟨[7, 115], [], [], [119], [], []⟩
 | 7 => ⟨[118, 119, 115], [(12, 1)], [], [120], [], []⟩
 | 8 => ⟨[120, 115], [(12, 2)], [], [121], [], []⟩
 | 9 => ⟨[117, 121, 115], [], [], [122], [], []⟩
 | 10 => ⟨[115, 122], [], [], [123], [], []⟩
 | 11 => ⟨[123], [], [], [124], [], []⟩
 | 12 => ⟨[16, 124], [], [], [125], [], []⟩
 | 13 => ⟨[6, 124], [], [], [126], [], []⟩
 | 14 => ⟨[125, 126, 124], [(16, 1)], [], [127], [], []⟩
 | 15 => ⟨[127, 124], [(16, 2)], [], [128], [], []⟩
 | 16 => ⟨[12, 124], [], [], [129], [], []⟩
 | 17 => ⟨[7, 124], [], [], [130], [], []⟩
 | 18 => ⟨[129, 130, 124], [(12, 1)], [], [131], [], []⟩
 | 19 => ⟨[131, 124], [(12, 2)], [], [132], [], []⟩
 | 20 => ⟨[128, 132, 124], [], [], [133], [], []⟩
 | 21 => ⟨[124, 133], [], [], [134], [], []⟩
 | _ => ⟨[], [], [], [], [], []⟩
def fnDistancesSt19 : Nat → Stat
 | 0 => ⟨[22], [], [], [149], [], []⟩
 | 1 => ⟨[149], [], [], [150], [], []⟩
 | 2 => ⟨[150], [], [], [151], [], []⟩
 | 3 => ⟨[16, 151], [], [], [152], [], []⟩
 | 4 => ⟨[21, 151], [(21, 1)], [], [153], [], []⟩
 | 5 => ⟨[153, 151], [(21, 1)], [], [154], [], []⟩
 | 6 => ⟨[152, 154, 151], [(16, 1)], [], [155], [], []⟩
 | 7 => ⟨[155, 151], [(16, 2)], [], [156], [], []⟩
 | 8 => ⟨[16, 151], [], [], [157], [], []⟩
 | 9 => ⟨[18, 151], [], [], [158], [], []⟩
 | 10 => ⟨[157, 158, 151], [(16, 1)], [], [159], [], []⟩
 | 11 => ⟨[159, 151], [(16, 2)], [], [160], [], []⟩
 | 12 => ⟨[160, 151], [], [], [161], [], []⟩
 | 13 => ⟨[156, 161, 151], [], [], [162], [], []⟩
 | 14 => ⟨[151, 162], [], [], [163], [], []⟩
 | _ => ⟨[], [], [], [], [], []⟩
def fnDistancesSt27 : Nat → Stat
 | 0 => ⟨[1], [], [], [177], [], []⟩
 | 1 => ⟨[177], [], [], [178], [], []⟩
 | 2 => ⟨[5], [(5, 1)], [], [179], [], []⟩
 | 3 => ⟨[179], [(5, 1)], [], [180], [], []⟩
 | 4 => ⟨[180], [], [], [181], [], []⟩
 | 5 => ⟨[178, 181], [], [], [182], [], []⟩
 | 6 => ⟨[182], [], [], [25], [], []⟩
 | _ => ⟨[], [], [], [], [], []⟩
def fnDistancesSt47 : Nat → Stat
 | 0 => ⟨[12], [], [], [235], [], []⟩
 | 1 => ⟨[31], [], [], [236], [], []⟩
 | 2 => ⟨[235, 236], [(12, 1)], [], [237], [], []⟩
 | 3 => ⟨[237], [(12, 2)], [], [238], [], []⟩
 | 4 => ⟨[12], [], [], [239], [], []⟩
 | 5 => ⟨[35], [], [], [240], [], []⟩
 | 6 => ⟨[239, 240], [(12, 1)], [], [241], [], []⟩
 | 7 => ⟨[241], [(12, 2)], [], [242], [], []⟩
 | 8 => ⟨[238, 242], [], [], [243], [], []⟩
 | 9 => ⟨[243], [], [], [244], [], []⟩
 | 10 => ⟨[244], [], [], [245], [], []⟩
 | 11 => ⟨[12, 245], [], [], [246], [], []⟩
 | 12 => ⟨[31, 245], [], [], [247], [], []⟩
 | 13 => ⟨[246, 247, 245], [(12, 1)], [], [248], [], []⟩
 | 14 => ⟨[248, 245], [(12, 2)], [], [249], [], []⟩
 | 15 => ⟨[249, 245], [], [], [250], [], []⟩
 | 16 => ⟨[12, 245], [], [], [251], [], []⟩
 | 17 => ⟨[35, 245], [], [], [252], [], []⟩
 | 18 => ⟨[251, 252, 245], [(12, 1)], [], [253], [], []⟩
 | 19 => ⟨[253, 245], [(12, 2)], [], [254], [], []⟩
 | 20 => ⟨[254, 245], [], [], [255], [], []⟩
 | 21 => ⟨[250, 255, 245], [], [], [256], [], []⟩
 | 22 => ⟨[245, 256], [], [], [257], [], []⟩
 | _ => ⟨[], [], [], [], [], []⟩
def fnDistancesSt63 : Nat → Stat
 | 0 => ⟨[40], [(40, 1)], [40], [329], [], []⟩
 | 1 => ⟨[45], [], [], [330], [], []⟩
 | 2 => ⟨[330], [(45, 1)], [], [331], [], []⟩
 | 3 => ⟨[331], [(45, 2)], [], [332], [], []⟩
 | 4 => ⟨[329, 332], [], [], [333], [], []⟩
 | 5 => ⟨[333], [], [], [328], [], [(333, 1), (333, 2)]⟩
 | 6 => ⟨[328], [], [], [334], [], [(328, 1)]⟩
 | 7 => ⟨[328], [], [], [335], [], [(328, 2)]⟩
 | 8 => ⟨[334], [], [334], [49], [(334, 1)], []⟩
 | 9 => ⟨[335], [], [], [50], [], []⟩
 | _ => ⟨[], [], [], [], [], []⟩
theorem wayN0 (N : Net) (d : List Int) (x : Nat) : wayN N d x 0 = x := rfl
theorem sumTo0 (f : Nat → Int) : sumTo 0 f = 0 := rfl
theorem tmodN (a b : Nat) : Int.tmod (a : Int) (b : Int) = ((a % b : Nat) : Int) := rfl
noncomputable def shs (l : List Int) (D r : Nat) (d : Nat) : Int := if (d : Int) ≤ r then gi (shl l D l.length) d else 0
theorem shs_all {l : List Int} {D r : Nat} (hD : ∀ j, j < l.length → gi l j < D) : sumTo D (shs l D r) = ((pickT (fun j => inB (gi l j) 0 r) l.length).length : Int) := by
 rw [pickT_len, ← sumTo_congr D fun d hd => show (if (d : Int) ≤ r then cnt l.length (fun j => gi l j == d) else 0) = shs l D r d by
  unfold shs shl; rw [gi_tab hd], shells_ball l r 0 D hD]
 unfold cnt
 refine sumTo_congr _ fun j _ => ?_
 congr 1
theorem dfxLaDistances : type_of% (And.intro tab27 (And.intro @rowi (And.intro tab24 (And.intro tab82 (And.intro @if_pos.{1} (And.intro tab25 (And.intro tab3 (And.intro @netZ.eq_1 (And.intro bool4 (And.intro @bne_self_eq_false.{0} (And.intro @beq_self_eq_true.{0} (And.intro @Bool.not_true (And.intro @Bool.not_false (And.intro @Bool.true_beq (And.intro @Bool.false_beq (And.intro @getDi (And.intro tab35 (And.intro @getDe (And.intro @getDp @trivial))))))))))))))))))) := And.intro tab27 (And.intro @rowi (And.intro tab24 (And.intro tab82 (And.intro @if_pos.{1} (And.intro tab25 (And.intro tab3 (And.intro @netZ.eq_1 (And.intro bool4 (And.intro @bne_self_eq_false.{0} (And.intro @beq_self_eq_true.{0} (And.intro @Bool.not_true (And.intro @Bool.not_false (And.intro @Bool.true_beq (And.intro @Bool.false_beq (And.intro @getDi (And.intro tab35 (And.intro @getDe (And.intro @getDp @trivial))))))))))))))))))
set_option maxRecDepth 8000 in
set_option maxHeartbeats 0 in
theorem FnDistances_c (a b : List Int) (hA : BytesAny a) (hB : BytesAny b) : ACalls Tryz.prog 3 [.c (codeC a), .c (codeC b)] (fun r => r = [.c (.p (.bool true))]) := by
 refine acalls_of (by simp [Arg.isIo]) Tryz.func3 rfl (by rw [Tryz.ntmps3]; simp) fun w0 => ?_
 rw [Tryz.ntmps3]
 have dfx := dfxLaDistances
 simp only [initE, argsL, Arg.av, codeC]
 refine dw_seq (dwR fun K hK => ?_)
 repeat refine evF ?_
 refine aops_end (hK _ (dwK [0, 1] ?_))
 clear hK K
 refine dw_seq ?_
 refine dw_seq (dwR fun K hK => ?_)
 repeat refine evF ?_
 refine clF rfl ⟨rfl, _, rfl⟩ (by omega) (by first | exact may6) (big_d a b hA) ?_
 rintro _ rfl
 repeat refine evF ?_
 refine aops_end (hK _ (dwK [0, 1, 53] ?_))
 clear hK K
 refine dwI (fun hb => ?_) (fun hb => ?_)
 ·refine dw_seq (dwR fun K hK => ?_)
  repeat refine evF ?_
  refine aops_end (hK _ (dwK [4] ?_))
  clear hK K
  exact dw_ret (fin_retA Tryz.results3 (.one (.re _ _ (.plain _ _ rfl))) (by decide) rfl)
 ·obtain ⟨hby, hby2⟩ := bigB_no hb hA hB
  refine dw_skip ?_
  show DW _ _ _ _ _
  refine dw_seq (dwR fun K hK => ?_)
  repeat refine evF ?_
  refine caF rfl ⟨rfl, _, rfl⟩ (by omega) (by first | exact may7) (DrawPathBetween_c a hby) ?_
  rintro _ ⟨N, x, y, rfl, htm⟩
  repeat refine evF ?_
  refine aops_end (hK _ (dwK [1, 5, 6, 7] ?_))
  clear hK K
  obtain ⟨p, ok, hP⟩ := pathRs_ex N x y
  obtain ⟨d, one, hD⟩ := distRs_ex N x
  have hln := htm.len
  have hli := htm.ids
  refine dw_seq (dwR fun K hK => ?_)
  repeat refine evF ?_
  refine clF rfl ⟨rfl, _, rfl⟩ (by omega) (by first | exact may8) (implPath_d NFz N x y (by omega) (by omega) hP) ?_
  rintro _ rfl
  repeat refine evF ?_
  refine aops_end (hK _ (dwK [1, 5, 6, 7, 8, 9] ?_))
  clear hK K
  refine dw_seq (dwR fun K hK => ?_)
  repeat refine evF ?_
  refine clF rfl ⟨rfl, _, rfl⟩ (by omega) (by first | exact may9) (specPath_d NFz N x y hP) ?_
  rintro _ rfl
  repeat refine evF ?_
  refine aops_end (hK _ (dwK [1, 5, 6, 7, 8, 9, 10, 11] ?_))
  clear hK K
  refine dw_seq (dwR fun K hK => ?_)
  repeat refine evF ?_
  refine clF rfl ⟨rfl, _, rfl⟩ (by omega) (by first | exact may10) (implDist_d NFz N x (by omega) (by omega) hD) ?_
  rintro _ rfl
  repeat refine evF ?_
  refine aops_end (hK _ (dwK [1, 5, 6, 7, 8, 9, 10, 11, 12, 13] ?_))
  clear hK K
  refine dw_seq (dwR fun K hK => ?_)
  repeat refine evF ?_
  refine clF rfl ⟨rfl, _, rfl⟩ (by omega) (by first | exact may11) (specDist_d NFz N x hD) ?_
  rintro _ rfl
  repeat refine evF ?_
  refine aops_end (hK _ (dwK [1, 5, 6, 7, 8, 9, 10, 11, 12, 13, 14, 15] ?_))
  clear hK K
  have hpl : p.length ≤ 1000 := by
   rcases hP with ⟨v, w, k, rfl, rfl, hv, hw, hg, hk, rfl, -⟩ | ⟨-, -, -, -, -, -, -, -, rfl, -⟩ | ⟨-, rfl, -⟩
   ·have hs : Sym N.ends := (goodB_fine hg).sym
    have := dist_lt hs hw hv
    rw [pth_len]; omega
   ·simp
   ·simp
  have hdl : d.length ≤ 1000 := by
   rcases hD with ⟨v, rfl, hv, hg, rfl, -⟩ | ⟨-, rfl, -⟩
   ·rw [(dists_is (goodB_fine hg).sym hv).len]; omega
   ·simp
  have hPP := sameL_self p
  have hDD := sameL_self d
  refine dw_seq ?_
  refine dw_seq (dwR fun K hK => ?_)
  repeat refine evF ?_
  refine cgF rfl rfl ⟨rfl, _, rfl⟩ (by omega) (by first | exact may12) (sameInts_d true 3 p true 3 p (by omega) (by omega)) ?_
  rintro _ rfl
  repeat refine evF ?_
  have dfx := And.intro dfx (@hPP)
  repeat refine evF ?_
  have dfx := And.intro dfx (@hPP)
  refine cgF rfl rfl ⟨rfl, _, rfl⟩ (by omega) (by first | exact may12) (sameInts_d true 3 d true 3 d (by omega) (by omega)) ?_
  rintro _ rfl
  repeat refine evF ?_
  have dfx := And.intro dfx (And.intro @hPP @hDD)
  repeat refine evF ?_
  have dfk := And.intro @hPP @hDD
  refine aops_end (hK _ (dwKF [1, 5, 6, 7, 8, 9, 12, 13, 105] ?_))
  clear hK K
  refine dwI (fun hb => ?_) (fun hb => ?_)
  ·cases hb
  ·refine dw_skip ?_
   show DW _ _ _ _ _
   refine dw_join (X := Unit) (fun z => True) (fun z => mkE 350 [(1, .c (.sl false 5 1 (b.map bC))), (5, .box), (6, .c (.p (.int .i64 x))), (12, .own false 1), (13, .c (.p (.bool one)))] [((5, 0), ⟨some 27, [.sl false 82 1 (N.ends.map (esC 35)), .sl false 3 1 (N.ids.map iC), .sl false 3 1 (N.inputs.map iC)]⟩), ((12, 0), ⟨none, [.sl true 3 1 (d.map iC)]⟩)]) ?_ ?_
   ·rcases hP with ⟨v, w, k, rfl, rfl, hv, hw, hg, hk, rfl, rfl⟩ | ⟨v, w, rfl, rfl, hv, hw, hg, hk, rfl, rfl⟩ | ⟨hno, rfl, rfl⟩
    ·obtain ⟨hs, hn, hids, hdg⟩ := good_all hg
     have hone : d = dists N v ∧ one = true := by
      rcases hD with ⟨v', e, -, -, rfl, rfl⟩ | ⟨h, -, -⟩
      ·obtain rfl : v' = v := by omega
       exact ⟨rfl, rfl⟩
      ·exfalso
       unfold nodeB at h
       rw [hg, inB_iff.2 (by omega)] at h
       cases h
     obtain ⟨rfl, rfl⟩ := hone
     have hdv : (dists N v).length = N.ends.length := (dists_is hs hv).len
     have hdw : (dists N w).length = N.ends.length := (dists_is hs hw).len
     have hpk : (pth N (dists N w) k v).length = k := pth_len _ _ _
     have hvw : gi (dists N v) w = k := by rw [dist_sym hs hv hw, hk]
     have hkn : k < N.ends.length := by have := dist_lt hs hw hv; omega
     refine dw_seq (dwR fun K hK => ?_)
     repeat refine evF ?_
     refine aops_end (hK _ (dwK [1, 5, 6, 7, 8, 12, 13, 106] ?_))
     clear hK K
     refine dwI (fun hb => ?_) (fun hb => ?_)
     ·refine dw_seq (dwR fun K hK => ?_)
      repeat refine evF ?_
      refine clF rfl ⟨rfl, _, rfl⟩ (by omega) (by first | exact may10) (DistancesFrom_d NFz N w hg hw) ?_
      rintro _ rfl
      repeat refine evF ?_
      refine aops_end (hK _ (dwK [1, 5, 6, 7, 8, 12, 13, 16, 17] ?_))
      clear hK K
      refine dw_seq ?_
      have dfx := And.intro dfx (And.intro @fnDistancesSt12.eq_def (And.intro @hpk (And.intro @hvw (And.intro @hk @Int.toNat_natCast))))
      refine dw_seq (dwRD fnDistancesSt12 (fun j r => match j with | _ => True) fun K hK => ?_)
      repeat refine dvF ?_
      have dfk := And.intro @hpk (And.intro @hvw @hk)
      refine dops_end (hK _ (dwKF [1, 5, 6, 7, 8, 12, 13, 16, 134] ?_))
      clear hK K
      refine dwI (fun hb => ?_) (fun hb => ?_)
      ·cases hb
      ·refine dw_skip ?_
       show DW _ _ _ _ _
       refine dw_seq (dwR fun K hK => ?_)
       repeat refine evF ?_
       refine aops_end (hK _ (dwK [1, 5, 6, 7, 8, 12, 13, 16, 18] ?_))
       clear hK K
       refine dw_seq ?_
       have dfx := And.intro dfx (@hpk)
       refine dw_seq (dwR fun K hK => ?_)
       repeat refine evF ?_
       have dfk := @hpk
       refine aops_end (hK _ (dwKF [1, 5, 6, 7, 8, 12, 13, 16, 18, 136, 137, 138] ?_))
       clear hK K
       refine dw_block ?_
       refine dw_loopP (X := Nat) (fun i => i ≤ k) (fun i => [(18, .c (.p (.int .i64 (wayN N (dists N w) v i)))), (138, .c (.p (.int .i64 i)))]) (fun i => []) (fun i => k - i) 0 (Nat.zero_le _) (by first | rfl | (simp only [bunK, C.at, C.put, List.dropLast, List.isPrefixOf, Nat.reduceMul, Nat.reduceLT, Nat.reduceLeDiff, Nat.reduceBEq, Nat.reduceEqDiff, reduceCtorEq, Nat.reduceAdd, ↓reduceIte, Int.natCast_zero, wayN0] <;> rfl)) ?_
       rintro i hi
       intro E hE
       simp only [bunK, C.at, C.put, List.dropLast, List.isPrefixOf, Nat.reduceMul, Nat.reduceLT, Nat.reduceLeDiff, Nat.reduceBEq, Nat.reduceEqDiff, reduceCtorEq, Nat.reduceAdd, ↓reduceIte] at hE
       subst hE
       obtain ⟨hwl, hwd⟩ := wayN_dist hs (dists_is hs hw) hv (by omega) i (by omega)
       refine dw_seq (dwR fun K hK => ?_)
       repeat refine evF ?_
       refine aops_end (hK _ (dwK [1, 5, 6, 7, 8, 12, 13, 16, 18, 136, 137, 138, 139] ?_))
       clear hK K
       refine dw_seq (dwI (fun hb => ?_) (fun hb => ?_))
       ·have hik : i < k := by simpa using hb
        obtain ⟨j, hj1, hj2, hj3, -⟩ := prt_step (dists_is hs hw) hwl (by omega)
        have hpi : gi (pth N (dists N w) k v) i = (j : Int) := by rw [pth_gi _ _ _ _ hik, hj1]
        have hwn : wayN N (dists N w) v (i + 1) = nd N (wayN N (dists N w) v i) j := by rw [wayN, hj1, Int.toNat_natCast]
        have hgp : (gp (gl N.ends (wayN N (dists N w) v i)) j).1 = ((nd N (wayN N (dists N w) v i) j : Nat) : Int) := by rw [(sym_nd hs hwl hj2).2.2.2.2]
        have hnl := (sym_nd hs hwl hj2).1
        have hdb := dist_in hs hn.2 hw hwl
        refine dw_skip ?_
        show DW _ _ _ _ _
        refine dw_seq (dw_block ?_)
        have dfx := And.intro dfx (And.intro @hpi @Int.toNat_natCast)
        refine dw_seq (dwR fun K hK => ?_)
        repeat refine evF ?_
        have dfk := @hpi
        refine aops_end (hK _ (dwKF [1, 5, 6, 7, 8, 12, 13, 16, 18, 20, 136, 137, 138] ?_))
        clear hK K
        refine dw_seq (dwR fun K hK => ?_)
        repeat refine evF ?_
        refine clF rfl ⟨rfl, _, rfl⟩ (by omega) (by first | exact may13) (OtherEnd_d NFz N (wayN N (dists N w) v i) j hg hids hwl hj2) ?_
        rintro _ rfl
        repeat refine evF ?_
        have dfk := @hgp
        refine aops_end (hK _ (dwKF [1, 5, 6, 7, 8, 12, 13, 16, 18, 21, 22, 136, 137, 138] ?_))
        clear hK K
        refine dw_seq ?_
        have dfx := And.intro dfx (And.intro @fnDistancesSt19.eq_def (And.intro @hgp (And.intro @hj3 @Int.toNat_natCast)))
        refine dw_seq (dwRD fnDistancesSt19 (fun j r => match j with | _ => True) fun K hK => ?_)
        repeat refine dvF ?_
        have dfk := And.intro @hgp @hj3
        refine dops_end (hK _ (dwKF [1, 5, 6, 7, 8, 12, 13, 16, 21, 136, 137, 138, 163] ?_))
        clear hK K
        refine dwI (fun hb => ?_) (fun hb => ?_)
        ·cases hb
        ·refine dw_skip ?_
         show DW _ _ _ _ _
         have dfx := And.intro dfx (@hgp)
         refine dwR fun K hK => ?_
         repeat refine evF ?_
         have dfk := @hgp
         refine aops_end (hK _ (dwKF [1, 5, 6, 7, 8, 12, 13, 16, 18, 136, 137, 138] ?_))
         clear hK K
         refine dwR fun K hK => ?_
         repeat refine evF ?_
         have dfk := And.intro @castS @hwn
         refine aops_end (hK _ ?_)
         clear hK K
         show ∃ x, _ ∧ _ ∧ Weak _ _
         refine ⟨i + 1, ?_, ?_, weakFk [1, 5, 6, 7, 8, 12, 13, 16, 18, 136, 137, 138]⟩
         ·exact hik
         ·omega
       ·have hik : i = k := by
         have : ¬ i < k := by simpa using hb
         omega
        have hew : wayN N (dists N w) v i = w := by rw [hik]; exact wayN_end hs (dists_is hs hw) hv hk
        rw [hew]
        refine dw_leave3 ?_
        refine dw_keep [1, 5, 6, 7, 12, 13, 18] (by simp only [bunK, C.at, C.put, List.dropLast, List.isPrefixOf, Nat.reduceMul, Nat.reduceLT, Nat.reduceLeDiff, Nat.reduceBEq, Nat.reduceEqDiff, reduceCtorEq, Nat.reduceAdd, ↓reduceIte]; exact rfl) ?_
        refine dw_seq (dwR fun K hK => ?_)
        repeat refine evF ?_
        refine aops_end (hK _ (dwK [1, 5, 6, 12, 13, 169] ?_))
        clear hK K
        refine dwI (fun hb => ?_) (fun hb => ?_)
        ·cases hb
        ·refine dw_skip ?_
         show ∃ x, _ ∧ Weak _ _
         refine ⟨(), ?_, (weak_keep _ [1, 5, 6, 12, 13]).trans (Weak.of_eq (by simp only [bunK, C.at, C.put, List.dropLast, List.isPrefixOf, Nat.reduceMul, Nat.reduceLT, Nat.reduceLeDiff, Nat.reduceBEq, Nat.reduceEqDiff, reduceCtorEq, Nat.reduceAdd, ↓reduceIte] <;> exact rfl))⟩
         trivial
     ·cases hb
    ·refine dw_seq (dwR fun K hK => ?_)
     repeat refine evF ?_
     refine aops_end (hK _ (dwK [1, 5, 6, 12, 13, 106] ?_))
     clear hK K
     refine dwI (fun hb => ?_) (fun hb => ?_)
     ·cases hb
     ·refine dw_skip ?_
      show ∃ x, _ ∧ Weak _ _
      refine ⟨(), ?_, (weak_keep _ [1, 5, 6, 12, 13]).trans (Weak.of_eq (by simp only [bunK, C.at, C.put, List.dropLast, List.isPrefixOf, Nat.reduceMul, Nat.reduceLT, Nat.reduceLeDiff, Nat.reduceBEq, Nat.reduceEqDiff, reduceCtorEq, Nat.reduceAdd, ↓reduceIte] <;> exact rfl))⟩
      trivial
    ·refine dw_seq (dwR fun K hK => ?_)
     repeat refine evF ?_
     refine aops_end (hK _ (dwK [1, 5, 6, 12, 13, 106] ?_))
     clear hK K
     refine dwI (fun hb => ?_) (fun hb => ?_)
     ·cases hb
     ·refine dw_skip ?_
      show ∃ x, _ ∧ Weak _ _
      refine ⟨(), ?_, (weak_keep _ [1, 5, 6, 12, 13]).trans (Weak.of_eq (by simp only [bunK, C.at, C.put, List.dropLast, List.isPrefixOf, Nat.reduceMul, Nat.reduceLT, Nat.reduceLeDiff, Nat.reduceBEq, Nat.reduceEqDiff, reduceCtorEq, Nat.reduceAdd, ↓reduceIte] <;> exact rfl))⟩
      trivial
   ·rintro _ -
    refine dw_join (X := Unit) (fun z => True) (fun z => mkE 350 [(1, .c (.sl false 5 1 (b.map bC)))] []) ?_ ?_
    ·rcases hD with ⟨v, rfl, hv, hg, rfl, rfl⟩ | ⟨-, rfl, rfl⟩
     ·obtain ⟨hs, hn, hids, hdg⟩ := good_all hg
      have hdv : (dists N v).length = N.ends.length := (dists_is hs hv).len
      obtain ⟨D, hDe⟩ : ∃ D : Nat, ecc N v + 1 = D := ⟨(ecc N v + 1).toNat, by have := ecc_bnd hs hv; omega⟩
      have hDn := ecc_bnd hs hv
      obtain ⟨r, hr⟩ : ∃ r, r = numF b b.length % N.ends.length := ⟨_, rfl⟩
      have hrl : r < N.ends.length := by rw [hr]; exact Nat.mod_lt _ (by omega)
      have hmod : Int.tmod (numF b b.length : Int) (N.ends.length : Int) = (r : Int) := by rw [tmodN, ← hr]
      have hn0 : ((N.ends.length : Int) = 0) ↔ False := ⟨fun h => by omega, fun h => h.elim⟩
      have hshl : (shl (dists N v) D N.ends.length).length = D := shl_len _ _ _
      have hall : sumTo D (shs (dists N v) D r) = ((pickT (fun j => inB (gi (dists N v) j) 0 r) N.ends.length).length : Int) := by
       rw [shs_all fun j hj => ?_, hdv]
       have := ecc_ge hs hv (by rw [← hdv]; exact hj)
       omega
      have hple := pickT_le (fun j => inB (gi (dists N v) j) 0 r) N.ends.length
      refine dw_seq (dwR fun K hK => ?_)
      repeat refine evF ?_
      refine aops_end (hK _ (dwK [1, 5, 6, 12, 170] ?_))
      clear hK K
      refine dwI (fun hb => ?_) (fun hb => ?_)
      ·refine dw_seq (dwR fun K hK => ?_)
       repeat refine evF ?_
       refine clF rfl ⟨rfl, _, rfl⟩ (by omega) (by first | exact may14) (ShellSizes_d NFz N v D hg hv hDe) ?_
       rintro _ rfl
       repeat refine evF ?_
       refine aops_end (hK _ (dwK [1, 5, 6, 12, 23, 24] ?_))
       clear hK K
       have dfx := And.intro dfx (And.intro @fnDistancesSt27.eq_def (And.intro @hmod @hn0))
       refine dw_seq (dwRD fnDistancesSt27 (fun j r => match j with | 1 => r = [.c (.p (.int .i64 (numF b b.length : Nat)))] | _ => True) fun K hK => ?_)
       repeat refine dvF ?_
       have dfx := And.intro dfx (And.intro @fnDistancesSt27.eq_def (And.intro @hmod @hn0))
       refine dcF rfl ⟨rfl, _, rfl⟩ (by omega) (by first | exact may15) (numberOf_d b hby2) ?_
       rintro _ rfl
       repeat refine dvF ?_
       have dfk := And.intro @hmod @hn0
       refine dops_end (hK _ (dwKF [1, 5, 6, 12, 23, 24, 25] ?_))
       clear hK K
       refine dw_seq (dwR fun K hK => ?_)
       repeat refine evF ?_
       refine clF rfl ⟨rfl, _, rfl⟩ (by omega) (by first | exact may16) (BallOf_d NFz N v r hg hv (by omega)) ?_
       rintro _ rfl
       repeat refine evF ?_
       refine aops_end (hK _ (dwK [1, 5, 6, 12, 23, 24, 25, 26, 27] ?_))
       clear hK K
       refine dw_seq (dwR fun K hK => ?_)
       repeat refine evF ?_
       refine aops_end (hK _ (dwK [1, 5, 6, 12, 23, 24, 25, 26, 27, 28] ?_))
       clear hK K
       refine dw_seq ?_
       have dfx := And.intro dfx (@hshl)
       refine dw_seq (dwR fun K hK => ?_)
       repeat refine evF ?_
       have dfk := @hshl
       refine aops_end (hK _ (dwKF [1, 5, 6, 12, 23, 24, 25, 26, 27, 28, 190, 191, 192] ?_))
       clear hK K
       refine dw_block ?_
       refine dw_loopP (X := Nat) (fun k => k ≤ D) (fun k => [(28, .c (.p (.int .i64 (sumTo k (shs (dists N v) D r))))), (192, .c (.p (.int .i64 k)))]) (fun k => []) (fun k => D - k) 0 (Nat.zero_le _) (by first | rfl | (simp only [bunK, C.at, C.put, List.dropLast, List.isPrefixOf, Nat.reduceMul, Nat.reduceLT, Nat.reduceLeDiff, Nat.reduceBEq, Nat.reduceEqDiff, reduceCtorEq, Nat.reduceAdd, ↓reduceIte, Int.natCast_zero, sumTo0] <;> rfl)) ?_
       rintro k hk
       intro E hE
       simp only [bunK, C.at, C.put, List.dropLast, List.isPrefixOf, Nat.reduceMul, Nat.reduceLT, Nat.reduceLeDiff, Nat.reduceBEq, Nat.reduceEqDiff, reduceCtorEq, Nat.reduceAdd, ↓reduceIte] at hE
       subst hE
       refine dw_seq (dwR fun K hK => ?_)
       repeat refine evF ?_
       refine aops_end (hK _ (dwK [1, 5, 6, 12, 23, 24, 25, 26, 27, 28, 190, 191, 192, 193] ?_))
       clear hK K
       refine dw_seq (dwI (fun hb => ?_) (fun hb => ?_))
       ·have hkD : k < D := by simpa using hb
        have hst : sumTo (k + 1) (shs (dists N v) D r) = sumTo k (shs (dists N v) D r) + shs (dists N v) D r k := rfl
        have hnn : ∀ i, 0 ≤ shs (dists N v) D r i := fun i => by
         unfold shs
         split
         ·rw [hdv]
          by_cases hi : i < D
          ·unfold shl; rw [gi_tab hi]; exact (cnt_bnd _ _).1
          ·simp [gi, hshl, hi]
         ·exact Int.le_refl _
        have hb1 : 0 ≤ sumTo k (shs (dists N v) D r) := sumTo_nonneg _ fun i _ => hnn i
        have hb2 : sumTo (k + 1) (shs (dists N v) D r) ≤ sumTo D (shs (dists N v) D r) := sumTo_mono hnn (by omega)
        have hb3 : 0 ≤ sumTo (k + 1) (shs (dists N v) D r) := sumTo_nonneg _ fun i _ => hnn i
        refine dw_skip ?_
        show DW _ _ _ _ _
        refine dw_join (X := Unit) (fun z => True) (fun z => mkE 350 [(1, .c (.sl false 5 1 (b.map bC))), (5, .box), (6, .c (.p (.int .i64 v))), (12, .own false 1), (23, .own false 1), (24, .c (.p (.bool true))), (25, .c (.p (.int .i64 r))), (26, .own false 1), (27, .c (.p (.bool true))), (28, .c (.p (.int .i64 (sumTo (k + 1) (shs (dists N v) D r))))), (190, .ref 23 0 [(0, 0)] false 1), (191, .c (.p (.int .i64 D))), (192, .c (.p (.int .i64 k)))] [((5, 0), ⟨some 27, [.sl false 82 1 (N.ends.map (esC 35)), .sl false 3 1 (N.ids.map iC), .sl false 3 1 (N.inputs.map iC)]⟩), ((12, 0), ⟨none, [.sl true 3 1 ((dists N v).map iC)]⟩), ((23, 0), ⟨none, [.sl true 3 1 ((shl (dists N v) D N.ends.length).map iC)]⟩), ((26, 0), ⟨none, [.sl true 3 1 ((pickT (fun j => inB (gi (dists N v) j) 0 r) N.ends.length).map iC)]⟩)]) ?_ ?_
        ·refine dw_block ?_
         have dfx := And.intro dfx (@Int.toNat_natCast)
         refine dw_seq (dwR fun K hK => ?_)
         repeat refine evF ?_
         refine aops_end (hK _ (dwK [1, 5, 6, 12, 23, 24, 25, 26, 27, 28, 29, 30, 190, 191, 192] ?_))
         clear hK K
         refine dw_seq (dwR fun K hK => ?_)
         repeat refine evF ?_
         refine aops_end (hK _ (dwK [1, 5, 6, 12, 23, 24, 25, 26, 27, 28, 30, 190, 191, 192, 199] ?_))
         clear hK K
         refine dwI (fun hb => ?_) (fun hb => ?_)
         ·have hm : sumTo (k + 1) (shs (dists N v) D r) = sumTo k (shs (dists N v) D r) + gi (shl (dists N v) D N.ends.length) k := by
           have h1 : (k : Int) ≤ r := by simpa using hb
           rw [hst, shs, if_pos h1, hdv]
          refine dwR fun K hK => ?_
          repeat refine evF ?_
          refine aops_end (hK _ ?_)
          clear hK K
          show ∃ x, _ ∧ Weak _ _
          refine ⟨(), ?_, (weak_keep _ [1, 5, 6, 12, 23, 24, 25, 26, 27, 28, 190, 191, 192]).trans (Weak.of_eq (by simp only [bunK, C.at, C.put, List.dropLast, List.isPrefixOf, Nat.reduceMul, Nat.reduceLT, Nat.reduceLeDiff, Nat.reduceBEq, Nat.reduceEqDiff, reduceCtorEq, Nat.reduceAdd, ↓reduceIte , ← hm] <;> exact rfl))⟩
          trivial
         ·have hm : sumTo (k + 1) (shs (dists N v) D r) = sumTo k (shs (dists N v) D r) := by
           have h1 : ¬ (k : Int) ≤ r := by simpa using hb
           rw [hst, shs, if_neg h1, Int.add_zero]
          refine dw_skip ?_
          show ∃ x, _ ∧ Weak _ _
          refine ⟨(), ?_, (weak_keep _ [1, 5, 6, 12, 23, 24, 25, 26, 27, 28, 190, 191, 192]).trans (Weak.of_eq (by simp only [bunK, C.at, C.put, List.dropLast, List.isPrefixOf, Nat.reduceMul, Nat.reduceLT, Nat.reduceLeDiff, Nat.reduceBEq, Nat.reduceEqDiff, reduceCtorEq, Nat.reduceAdd, ↓reduceIte , hm] <;> exact rfl))⟩
          trivial
        ·rintro _ -
         refine dwR fun K hK => ?_
         repeat refine evF ?_
         have dfk := @castS
         refine aops_end (hK _ ?_)
         clear hK K
         show ∃ x, _ ∧ _ ∧ Weak _ _
         refine ⟨k + 1, ?_, ?_, weakFk [1, 5, 6, 12, 23, 24, 25, 26, 27, 28, 190, 191, 192]⟩
         ·exact hkD
         ·omega
       ·have hkD : k = D := by
         have : ¬ k < D := by simpa using hb
         omega
        rw [hkD, hall]
        refine dw_leave3 ?_
        refine dw_keep [1, 5, 6, 12, 24, 26, 27, 28] (by simp only [bunK, C.at, C.put, List.dropLast, List.isPrefixOf, Nat.reduceMul, Nat.reduceLT, Nat.reduceLeDiff, Nat.reduceBEq, Nat.reduceEqDiff, reduceCtorEq, Nat.reduceAdd, ↓reduceIte]; exact rfl) ?_
        refine dw_seq ?_
        refine dw_seq (dwR fun K hK => ?_)
        repeat refine evF ?_
        refine aops_end (hK _ (dwK [1, 5, 6, 12, 215] ?_))
        clear hK K
        refine dwI (fun hb => ?_) (fun hb => ?_)
        ·cases hb
        ·refine dw_skip ?_
         show DW _ _ _ _ _
         refine dw_seq ?_
         have dfx := And.intro dfx (@hdv)
         refine dw_seq (dwR fun K hK => ?_)
         repeat refine evF ?_
         have dfk := @hdv
         refine aops_end (hK _ (dwKF [1, 5, 6, 12, 217, 218] ?_))
         clear hK K
         refine dw_block ?_
         refine dw_loopP (X := Nat) (fun u => u ≤ N.ends.length) (fun u => [(218, .c (.p (.int .i64 u)))]) (fun u => []) (fun u => N.ends.length - u) 0 (Nat.zero_le _) (by first | rfl | (simp only [bunK, C.at, C.put, List.dropLast, List.isPrefixOf, Nat.reduceMul, Nat.reduceLT, Nat.reduceLeDiff, Nat.reduceBEq, Nat.reduceEqDiff, reduceCtorEq, Nat.reduceAdd, ↓reduceIte, Int.natCast_zero] <;> rfl)) ?_
         rintro u hu
         intro E hE
         simp only [bunK, C.at, C.put, List.dropLast, List.isPrefixOf, Nat.reduceMul, Nat.reduceLT, Nat.reduceLeDiff, Nat.reduceBEq, Nat.reduceEqDiff, reduceCtorEq, Nat.reduceAdd, ↓reduceIte] at hE
         subst hE
         refine dw_seq (dwR fun K hK => ?_)
         repeat refine evF ?_
         refine aops_end (hK _ (dwK [1, 5, 6, 12, 217, 218, 219] ?_))
         clear hK K
         refine dw_seq (dwI (fun hb => ?_) (fun hb => ?_))
         ·have hun : u < N.ends.length := by simpa using hb
          have hul := hdg u
          have hnl : (nearL N u (gl N.ends u).length).length = (gl N.ends u).length := by
           unfold nearL; simp
          have hdu := dist_in hs hn.2 hv hun
          refine dw_skip ?_
          show DW _ _ _ _ _
          refine dw_seq (dw_block ?_)
          refine dw_seq (dwR fun K hK => ?_)
          repeat refine evF ?_
          refine aops_end (hK _ (dwK [1, 5, 6, 12, 31, 217, 218] ?_))
          clear hK K
          refine dw_seq (dwR fun K hK => ?_)
          repeat refine evF ?_
          refine clF rfl ⟨rfl, _, rfl⟩ (by omega) (by first | exact may17) (NeighboursOf_d NFz N u hg hun) ?_
          rintro _ rfl
          repeat refine evF ?_
          refine aops_end (hK _ (dwK [1, 5, 6, 12, 31, 32, 33, 217, 218] ?_))
          clear hK K
          refine dw_seq ?_
          refine dw_seq (dwR fun K hK => ?_)
          repeat refine evF ?_
          refine aops_end (hK _ (dwK [1, 5, 6, 12, 31, 32, 217, 218, 228] ?_))
          clear hK K
          refine dwI (fun hb => ?_) (fun hb => ?_)
          ·cases hb
          ·refine dw_skip ?_
           show DW _ _ _ _ _
           have dfx := And.intro dfx (@hnl)
           refine dw_seq (dwR fun K hK => ?_)
           repeat refine evF ?_
           have dfk := @hnl
           refine aops_end (hK _ (dwKF [1, 5, 6, 12, 31, 32, 217, 218, 229, 230, 231] ?_))
           clear hK K
           refine dw_block ?_
           refine dw_loopP (X := Nat) (fun j => j ≤ (gl N.ends u).length) (fun j => [(231, .c (.p (.int .i64 j)))]) (fun j => []) (fun j => (gl N.ends u).length - j) 0 (Nat.zero_le _) (by first | rfl | (simp only [bunK, C.at, C.put, List.dropLast, List.isPrefixOf, Nat.reduceMul, Nat.reduceLT, Nat.reduceLeDiff, Nat.reduceBEq, Nat.reduceEqDiff, reduceCtorEq, Nat.reduceAdd, ↓reduceIte, Int.natCast_zero] <;> rfl)) ?_
           rintro j hj
           intro E hE
           simp only [bunK, C.at, C.put, List.dropLast, List.isPrefixOf, Nat.reduceMul, Nat.reduceLT, Nat.reduceLeDiff, Nat.reduceBEq, Nat.reduceEqDiff, reduceCtorEq, Nat.reduceAdd, ↓reduceIte] at hE
           subst hE
           refine dw_seq (dwR fun K hK => ?_)
           repeat refine evF ?_
           refine aops_end (hK _ (dwK [1, 5, 6, 12, 31, 32, 217, 218, 229, 230, 231, 232] ?_))
           clear hK K
           refine dw_seq (dwI (fun hb => ?_) (fun hb => ?_))
           ·have hjl : j < (gl N.ends u).length := by simpa using hb
            have hnj : gi (nearL N u (gl N.ends u).length) j = ((nd N u j : Nat) : Int) := by
             rw [nearL_gi rfl hjl, (sym_nd hs hun hjl).2.2.2.2]
            have hxl := (sym_nd hs hun hjl).1
            obtain ⟨q1, q2⟩ := dist_near hs hv hun hjl
            have hdx := dist_in hs hn.2 hv hxl
            have hf1 : decide (gi (dists N v) u - gi (dists N v) (nd N u j) > 1) = false := decide_eq_false (by omega)
            have hf3 : decide (1 < gi (dists N v) u - gi (dists N v) (nd N u j)) = false := decide_eq_false (by omega)
            have hf2 : (decide (gi (dists N v) u < 0) == decide (gi (dists N v) (nd N u j) < 0)) = true := by
             rw [show decide (gi (dists N v) u < 0) = decide (gi (dists N v) (nd N u j) < 0) from decide_eq_decide.2 q2]; exact beq_self_eq_true _
            have hf4 : (decide (gi (dists N v) u < 0) != decide (gi (dists N v) (nd N u j) < 0)) = false := by
             rw [show decide (gi (dists N v) u < 0) = decide (gi (dists N v) (nd N u j) < 0) from decide_eq_decide.2 q2]; exact bne_self_eq_false _
            refine dw_skip ?_
            show DW _ _ _ _ _
            refine dw_seq (dw_block ?_)
            have dfx := And.intro dfx (And.intro @hnj @Int.toNat_natCast)
            refine dw_seq (dwR fun K hK => ?_)
            repeat refine evF ?_
            have dfk := @hnj
            refine aops_end (hK _ (dwKF [1, 5, 6, 12, 31, 32, 35, 217, 218, 229, 230, 231] ?_))
            clear hK K
            have dfx := And.intro dfx (And.intro @fnDistancesSt47.eq_def (And.intro @hf1 (And.intro @hf3 (And.intro @hf2 (And.intro @hf4 @Int.toNat_natCast)))))
            refine dw_seq (dwRD fnDistancesSt47 (fun j r => match j with | _ => True) fun K hK => ?_)
            repeat refine dvF ?_
            have dfk := And.intro @hf1 (And.intro @hf3 (And.intro @hf2 @hf4))
            refine dops_end (hK _ (dwKF [1, 5, 6, 12, 31, 32, 217, 218, 229, 230, 231, 257] ?_))
            clear hK K
            refine dwI (fun hb => ?_) (fun hb => ?_)
            ·cases hb
            ·refine dw_skip ?_
             show DW _ _ _ _ _
             refine dwR fun K hK => ?_
             repeat refine evF ?_
             have dfk := @castS
             refine aops_end (hK _ ?_)
             clear hK K
             show ∃ x, _ ∧ _ ∧ Weak _ _
             refine ⟨j + 1, ?_, ?_, weakFk [1, 5, 6, 12, 31, 32, 217, 218, 229, 230, 231]⟩
             ·exact hjl
             ·omega
           ·refine dw_leave3 ?_
            refine dw_keep [1, 5, 6, 12, 217, 218] (by simp only [bunK, C.at, C.put, List.dropLast, List.isPrefixOf, Nat.reduceMul, Nat.reduceLT, Nat.reduceLeDiff, Nat.reduceBEq, Nat.reduceEqDiff, reduceCtorEq, Nat.reduceAdd, ↓reduceIte]; exact rfl) ?_
            refine dwR fun K hK => ?_
            repeat refine evF ?_
            have dfk := @castS
            refine aops_end (hK _ ?_)
            clear hK K
            show ∃ x, _ ∧ _ ∧ Weak _ _
            refine ⟨u + 1, ?_, ?_, weakFk [1, 5, 6, 12, 217, 218]⟩
            ·exact hun
            ·omega
         ·have hpw : (wpar N v).length = N.ends.length := wpar_len
          have hww := sameL_self (wpar N v)
          refine dw_leave3 ?_
          refine dw_keep [1, 5, 6] (by simp only [bunK, C.at, C.put, List.dropLast, List.isPrefixOf, Nat.reduceMul, Nat.reduceLT, Nat.reduceLeDiff, Nat.reduceBEq, Nat.reduceEqDiff, reduceCtorEq, Nat.reduceAdd, ↓reduceIte]; exact rfl) ?_
          refine dw_seq (dwR fun K hK => ?_)
          repeat refine evF ?_
          refine clF rfl ⟨rfl, _, rfl⟩ (by omega) (by first | exact may18) (SpanningTree_d NFz N v hg hv) ?_
          rintro _ rfl
          repeat refine evF ?_
          refine aops_end (hK _ (dwK [1, 5, 6, 36, 37] ?_))
          clear hK K
          refine dw_seq (dwR fun K hK => ?_)
          repeat refine evF ?_
          refine clF rfl ⟨rfl, _, rfl⟩ (by omega) (by first | exact may19) (specSpanningTree_d NFz N v hg hv) ?_
          rintro _ rfl
          repeat refine evF ?_
          refine aops_end (hK _ (dwK [1, 36, 37, 38, 39] ?_))
          clear hK K
          refine dw_seq (dwR fun K hK => ?_)
          repeat refine evF ?_
          refine cgF rfl rfl ⟨rfl, _, rfl⟩ (by omega) (by first | exact may12) (sameInts_d true 3 (wpar N v) true 3 (wpar N v) (by omega) (by omega)) ?_
          rintro _ rfl
          repeat refine evF ?_
          have dfx := And.intro dfx (@hww)
          repeat refine evF ?_
          have dfk := @hww
          refine aops_end (hK _ (dwKF [1, 280] ?_))
          clear hK K
          refine dwI (fun hb => ?_) (fun hb => ?_)
          ·cases hb
          ·refine dw_skip ?_
           show ∃ x, _ ∧ Weak _ _
           refine ⟨(), ?_, (weak_keep _ [1]).trans (Weak.of_eq (by simp only [bunK, C.at, C.put, List.dropLast, List.isPrefixOf, Nat.reduceMul, Nat.reduceLT, Nat.reduceLeDiff, Nat.reduceBEq, Nat.reduceEqDiff, reduceCtorEq, Nat.reduceAdd, ↓reduceIte] <;> exact rfl))⟩
           trivial
      ·cases hb
     ·refine dw_seq (dwR fun K hK => ?_)
      repeat refine evF ?_
      refine aops_end (hK _ (dwK [1, 170] ?_))
      clear hK K
      refine dwI (fun hb => ?_) (fun hb => ?_)
      ·cases hb
      ·refine dw_skip ?_
       show ∃ x, _ ∧ Weak _ _
       refine ⟨(), ?_, (weak_keep _ [1]).trans (Weak.of_eq (by simp only [bunK, C.at, C.put, List.dropLast, List.isPrefixOf, Nat.reduceMul, Nat.reduceLT, Nat.reduceLeDiff, Nat.reduceBEq, Nat.reduceEqDiff, reduceCtorEq, Nat.reduceAdd, ↓reduceIte] <;> exact rfl))⟩
       trivial
    ·rintro _ -
     refine dw_seq (dwR fun K hK => ?_)
     repeat refine evF ?_
     refine caF rfl ⟨rfl, _, rfl⟩ (by omega) (by first | exact may20) (DrawDiameterOf_c b hby2) ?_
     rintro _ ⟨M, rfl, htm2⟩
     repeat refine evF ?_
     refine aops_end (hK _ (dwK [40] ?_))
     clear hK K
     have hln2 := htm2.len
     have hli2 := htm2.ids
     obtain ⟨cn, hcn⟩ : ∃ cn, conB M = cn := ⟨_, rfl⟩
     have hcl : (cenL M).length ≤ 1000 := by
      unfold cenL
      split
      ·have := pickT_le (fun j => gi (eccs M) j == mn0 (eccs M)) M.ends.length
       omega
      ·simp
     have hcc := sameL_self (cenL M)
     have dfx := And.intro dfx (@hcn)
     refine dw_seq (dwR fun K hK => ?_)
     repeat refine evF ?_
     have dfx := And.intro dfx (@hcn)
     refine clF rfl ⟨rfl, _, rfl⟩ (by omega) (by first | exact may21) (DiameterOf_d NFz M (by omega)) ?_
     rintro _ rfl
     repeat refine evF ?_
     have dfk := @hcn
     refine aops_end (hK _ (dwKF [40, 41, 42] ?_))
     clear hK K
     have dfx := And.intro dfx (@hcn)
     refine dw_seq (dwR fun K hK => ?_)
     repeat refine evF ?_
     have dfx := And.intro dfx (@hcn)
     refine clF rfl ⟨rfl, _, rfl⟩ (by omega) (by first | exact may22) (specDiameterOf_d NFz M) ?_
     rintro _ rfl
     repeat refine evF ?_
     have dfk := @hcn
     refine aops_end (hK _ (dwKF [40, 41, 42, 43, 44] ?_))
     clear hK K
     have dfx := And.intro dfx (@hcn)
     refine dw_seq (dwR fun K hK => ?_)
     repeat refine evF ?_
     have dfx := And.intro dfx (@hcn)
     refine clF rfl ⟨rfl, _, rfl⟩ (by omega) (by first | exact may23) (CentresOf_d NFz M (by omega)) ?_
     rintro _ rfl
     repeat refine evF ?_
     have dfk := @hcn
     refine aops_end (hK _ (dwKF [40, 41, 42, 43, 44, 45, 46] ?_))
     clear hK K
     have dfx := And.intro dfx (@hcn)
     refine dw_seq (dwR fun K hK => ?_)
     repeat refine evF ?_
     have dfx := And.intro dfx (@hcn)
     refine clF rfl ⟨rfl, _, rfl⟩ (by omega) (by first | exact may24) (specCentresOf_d NFz M) ?_
     rintro _ rfl
     repeat refine evF ?_
     have dfk := @hcn
     refine aops_end (hK _ (dwKF [40, 41, 42, 43, 44, 45, 46, 47, 48] ?_))
     clear hK K
     refine dw_seq ?_
     refine dw_seq (dwR fun K hK => ?_)
     repeat refine evF ?_
     refine cgF rfl rfl ⟨rfl, _, rfl⟩ (by omega) (by first | exact may12) (sameInts_d true 3 (cenL M) true 3 (cenL M) (by omega) (by omega)) ?_
     rintro _ rfl
     repeat refine evF ?_
     have dfx := And.intro dfx (@hcc)
     repeat refine evF ?_
     have dfk := @hcc
     refine aops_end (hK _ (dwKF [40, 41, 42, 45, 326] ?_))
     clear hK K
     refine dwI (fun hb => ?_) (fun hb => ?_)
     ·cases hb
     ·refine dw_skip ?_
      show DW _ _ _ _ _
      refine dw_seq ?_
      refine dw_seq (dwR fun K hK => ?_)
      repeat refine evF ?_
      refine aops_end (hK _ (dwK [40, 41, 45, 327] ?_))
      clear hK K
      cases cn with
      | true =>
       obtain ⟨cv, hcv, hcv2, hcp, hfl, hq1, hq2⟩ := cen_first hcn
       have hgM : goodB M = true := (Bool.and_eq_true_iff.1 hcn).1
       have hdl2 : (dists M cv).length ≤ 1000000 := by rw [(dists_is (good_all hgM).1 hcv2).len]; omega
       have hk1 : decide (mx0 (dists M cv) ≤ mx0 (eccs M)) = true := decide_eq_true (by omega)
       have hk2 : decide (mx0 (eccs M) ≤ 2 * mx0 (dists M cv)) = true := decide_eq_true (by omega)
       have hmb := ecc_bnd (good_all hgM).1 hcv2
       have hmb2 : 0 ≤ mx0 (dists M cv) ∧ mx0 (dists M cv) < M.ends.length := hmb
       refine dwI (fun hb => ?_) (fun hb => ?_)
       ·have dfx := And.intro dfx (And.intro @fnDistancesSt63.eq_def (And.intro @toNat0 @hcv))
        refine dw_seq (dwRD fnDistancesSt63 (fun j r => match j with | 4 => r = [.own false [.sl true 3 1 ((dists M cv).map iC)], .c (.p (.bool true))] | _ => True) fun K hK => ?_)
        repeat refine dvF ?_
        have dfx := And.intro dfx (And.intro @fnDistancesSt63.eq_def (And.intro @toNat0 @hcv))
        refine dcF rfl ⟨rfl, _, rfl⟩ (by omega) (by first | exact may10) (DistancesFrom_d NFz M cv hgM hcv2) ?_
        rintro _ rfl
        repeat refine dvF ?_
        have dfk := And.intro @toNat0 @hcv
        refine dops_end (hK _ (dwKF [41, 49, 50] ?_))
        clear hK K
        refine dw_seq (dwR fun K hK => ?_)
        repeat refine evF ?_
        refine cgF rfl rfl ⟨rfl, _, rfl⟩ (by omega) (by first | exact may25) (qMost_d true 3 (dists M cv) hdl2) ?_
        rintro _ rfl
        repeat refine evF ?_
        have dfx := And.intro dfx (@hk1)
        repeat refine evF ?_
        have dfx := And.intro dfx (@hk1)
        refine cgF rfl rfl ⟨rfl, _, rfl⟩ (by omega) (by first | exact may25) (qMost_d true 3 (dists M cv) hdl2) ?_
        rintro _ rfl
        repeat refine evF ?_
        have dfx := And.intro dfx (And.intro @hk1 @hk2)
        repeat refine evF ?_
        have dfk := And.intro @hk1 @hk2
        refine aops_end (hK _ (dwKF [4] ?_))
        clear hK K
        exact dw_ret (fin_retA Tryz.results3 (.one (.re _ _ (.plain _ _ rfl))) (by decide) rfl)
       ·cases hb
      | false =>
       refine dwI (fun hb => ?_) (fun hb => ?_)
       ·cases hb
       ·refine dw_skip ?_
        show DW _ _ _ _ _
        refine dw_seq (dwR fun K hK => ?_)
        repeat refine evF ?_
        refine aops_end (hK _ (dwK [4] ?_))
        clear hK K
        exact dw_ret (fin_retA Tryz.results3 (.one (.re _ _ (.plain _ _ rfl))) (by decide) rfl)
theorem lawDistances (v0 v1 : Value) (L0 L1 : Nat) (w : World) (h0 : BytR w v0 L0) (h1 : BytR w v1 L1) : Calls Tryz.prog 3 #[v0, v1] w (RetV w (.bool true)) := law_of (fun a b hA hB => FnDistances_c a b hA hB) h0 h1
end Go.Proofs.YtdiiggpohcjppaaGreat
