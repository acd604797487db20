/- impl.PowerOf, spec.PowerOf, spec.DrawPowerOf over data -/
import Derived.Test.YtdiiggpohcjppaaGreatCJn46
import Derived.Test.YtdiiggpohcjppaaGreatCDpq
import Derived.Test.YtdiiggpohcjppaaGreatCJn44
import Derived.Test.YtdiiggpohcjppaaGreatCJn33
set_option linter.unusedSimpArgs false
set_option linter.unusedVariables false
namespace Go.Proofs.YtdiiggpohcjppaaGreat
set_option maxHeartbeats 0
set_option maxRecDepth 8000
open Go Go.RowKit
noncomputable def wg (N : Net) (x : Int) : Net × Bool := if (bz N && inB x 1 40) = true then (okN (dq N x.toNat), bz (dq N x.toNat)) else (net0, false)
theorem Gy {N : Net} {m : Nat} (hg : bz N = true) (h : inB (m : Int) 1 40 = true) : wg N m = (okN (dq N m), bz (dq N m)) := by
 unfold wg
 rw [hg, h, Int.toNat_natCast]; rfl
theorem y0 {N : Net} {x : Int} (h : (bz N && inB x 1 40) = false) : wg N x = (net0, false) := by
 unfold wg
 rw [h]; rfl
noncomputable def nrL (N : Net) (m k : Nat) : List (List Int) := nh N.ends.length fun u => if u < k then az N m u else []
theorem y7 (N : Net) (m k : Nat) : (nrL N m k).length = N.ends.length := kg _ _
theorem Q2 (N : Net) (m : Nat) : nrL N m 0 = List.replicate N.ends.length [] := by
 refine List.ext_getElem (by simp [y7]) fun i h1 h2 => ?_
 simp [nrL, nh]
theorem T6 (N : Net) (m : Nat) : nrL N m N.ends.length = nh N.ends.length (az N m) := by
 unfold nrL nh
 exact List.map_congr_left fun u hu => by rw [if_pos (List.mem_range.1 hu)]
theorem Wr {N : Net} {m k : Nat} (hk : k < N.ends.length) : lg (nrL N m k) k = [] := by
 unfold nrL; rw [sn hk, if_neg (by omega)]
theorem Q3 {N : Net} {m k : Nat} : (nrL N m k).set k (az N m k) = nrL N m (k + 1) := by
 refine List.ext_getElem (by rw [List.length_set, y7, y7]) fun i h1 h2 => ?_
 rw [List.getElem_set]
 simp only [nrL, nh, List.getElem_map, List.getElem_range]
 by_cases h : k = i
 ·subst h; rw [if_pos rfl, if_pos (by omega)]
 ·rw [if_neg h]
  by_cases h3 : i < k
  ·rw [if_pos h3, if_pos (by omega)]
  ·rw [if_neg h3, if_neg (by omega)]
theorem Qe {L : List (List Int)} {k : Nat} (h : lg L k = []) : L = L.set k [] := by
 refine List.ext_getElem (by simp) fun i g1 g2 => ?_
 rw [List.getElem_set]
 split
 ·rename_i he; subst he; rw [← Hm g1, h]
 ·rfl
theorem Uo {t2 : TypeId} {ess : List (List (Int × Int))} {k : Nat} {y : C} : (((ess.map (esC t2)).modify k fun row => row.modify 0 fun _ => y).modify k fun row => row.modify 0 fun _ => C.sl true t2 2 []) = (ess.set k []).map (esC t2) := by
 apply List.ext_getElem?
 intro i
 simp only [List.getElem?_modify, List.getElem?_map, List.getElem?_set]
 by_cases h : k = i
 ·subst h
  by_cases hk : k < ess.length
  ·simp [List.getElem?_eq_getElem hk, hk, esC]
  ·simp [List.getElem?_eq_none (Nat.le_of_not_lt hk), hk]
 ·simp [h]
theorem Rt {T k v : Nat} {rows : List (List C)} {xs : List C} {y : C} (h : b8 rows v 0 = some y) : look (C.sl true T k rows :: xs) [(0, 0), (v, 0)] = some y :=
 (em (p := [(0, 0)]) (by simp)).2 ⟨T, k, rows, cr _ 0, h⟩
def ep : Nat → Stat
 | 0 => ⟨[10], [(10, 1)], [], [78], [], []⟩
 | 1 => ⟨[78], [(10, 1)], [], [79], [], []⟩
 | 2 => ⟨[11], [], [], [80], [], []⟩
 | 3 => ⟨[10], [(10, 1)], [], [81], [], []⟩
 | 4 => ⟨[81], [(10, 1)], [], [82], [], []⟩
 | 5 => ⟨[11], [], [], [83], [], []⟩
 | 6 => ⟨[82, 83], [(10, 1)], [], [84], [], []⟩
 | 7 => ⟨[84], [(10, 2)], [], [85], [], []⟩
 | 8 => ⟨[13], [], [], [86], [], []⟩
 | 9 => ⟨[6], [], [], [87], [], []⟩
 | 10 => ⟨[13], [], [], [88], [], []⟩
 | 11 => ⟨[87, 88], [], [], [89], [], []⟩
 | 12 => ⟨[89], [], [], [90], [], []⟩
 | 13 => ⟨[11], [], [], [91], [], []⟩
 | 14 => ⟨[90, 91], [], [], [92], [], []⟩
 | 15 => ⟨[86, 92], [], [], [93], [], []⟩
 | 16 => ⟨[93], [], [], [94], [], []⟩
 | 17 => ⟨[85, 94], [(10, 2), (94, 1)], [10, 94], [95], [(10, 2)], []⟩
 | 18 => ⟨[79, 80], [(10, 1)], [], [96], [], []⟩
 | 19 => ⟨[96, 95], [(10, 2)], [95], [], [(10, 2), (95, 1)], []⟩
 | _ => ⟨[], [], [], [], [], []⟩
def zBDpr1 := PLift.up (And.intro an (And.intro bb (And.intro cl (And.intro bm (And.intro bj (And.intro @if_pos.{1} (And.intro @b7 (And.intro bn (And.intro @b4 (And.intro @b0 (And.intro @br (And.intro @a7 (And.intro @a6 (And.intro ew (And.intro @dm (And.intro @fb @trivial))))))))))))))))
theorem Kk : type_of% zBDpr1.down := zBDpr1.down
theorem Ck (f : NF) (N : Net) (x : Int) (hf : Ya N) (hpi : (dq N x.toNat).ids.length ≤ 2097152) : DCalls Tryz.prog 27 [.agg (bv f N), .c (.p (.int .i64 x))] (fun r => r = [.own true (netO (wg N x).1), .c (.p (.bool (wg N x).2))]) := by
 refine ao Tryz.func27 rfl (by rw [Tryz.ntmps27]; simp) fun w0 => ?_
 rw [Tryz.ntmps27]
 have dfx := Kk
 simp only [ce, be, Arg.av, bv, cm, ints, ends]
 refine ab (dwR fun K hK => ?_)
 repeat refine evF ?_
 refine aa (hK _ (dwK [1, 2, 4] ?_))
 clear hK K
 refine ab ?_
 refine ab (dwR fun K hK => ?_)
 repeat refine evF ?_
 refine clF rfl ⟨rfl, _, rfl⟩ (by omega) (by first | exact pg | exact j3) (f6 ⟨false, f.t1, f.o2, f.t2, false, f.t3, false, f.t4⟩ N hpi) ?_
 rintro _ rfl
 repeat refine evF ?_
 obtain hg | hg := Bool.eq_false_or_eq_true (bz N)
 ·have dfx := And.intro dfx (@hg)
  repeat refine evF ?_
  have dfx := And.intro dfx (@hg)
  refine cgF rfl rfl ⟨rfl, _, rfl⟩ (by omega) (by first | exact pg | exact j3) (ft x 1 40) ?_
  rintro _ rfl
  repeat refine evF ?_
  obtain hin | hin := Bool.eq_false_or_eq_true (inB x 1 40)
  ·obtain ⟨hs, hn, hids, hdg⟩ := dh hg
   obtain ⟨m, rfl⟩ : ∃ m : Nat, x = m := ⟨x.toNat, by have := cf.1 hin; omega⟩
   have hm2 := cf.1 hin
   rw [Int.toNat_natCast] at hpi
   have dfx := And.intro dfx (And.intro @hg @hin)
   repeat refine evF ?_
   have dfk := And.intro @hg @hin
   refine aa (hK _ (a8 [1, 2, 4, 21] ?_))
   clear hK K
   refine dwI (fun hb => ?_) (fun hb => ?_)
   ·cases hb
   ·refine ai ?_
    show DW _ _ _ _ _
    have hz : List.replicate N.ends.length ([] : List Int) = nrL N m 0 := (Q2 N m).symm
    have dfx := And.intro dfx (And.intro @Mv @Int.toNat_natCast)
    refine ab (dwR fun K hK => ?_)
    repeat refine evF ?_
    have dfk := @Mv
    refine aa (hK _ (a8 [1, 2, 4, 6] ?_))
    clear hK K
    refine Mj 6 0 3 1 (by decide) rfl rfl [1, 2, 4, 6] (by simp only [ac, C.at, C.put, List.dropLast, List.isPrefixOf, simprocAttr, List.modify_zero_cons, List.modify_succ_cons, V1]; exact rfl) ?_
    refine ab ?_
    refine ab (dwR fun K hK => ?_)
    repeat refine evF ?_
    refine aa (hK _ (dwK [1, 2, 4, 6, 29, 30] ?_))
    clear hK K
    refine ae ?_
    refine ax (X := Nat) (fun k => k ≤ N.ends.length) (fun k => [(30, .c (.p (.int .i64 k)))]) (fun k => [((6, 0), ⟨none, [.sl true 25 1 ((nrL N m k).map (lsC 3))]⟩)]) (fun k => N.ends.length - k) 0 (Nat.zero_le _) (by first | rfl | (simp only [ac, C.at, C.put, List.dropLast, List.isPrefixOf, simprocAttr, Int.natCast_zero, ← hz] <;> rfl)) ?_
    rintro k hk
    intro E hE
    simp only [ac, C.at, C.put, List.dropLast, List.isPrefixOf, simprocAttr] at hE
    subst hE
    obtain ⟨L0, hL0⟩ : ∃ L0, L0 = nrL N m k := ⟨_, rfl⟩
    have hll : L0.length = N.ends.length := by rw [hL0, y7]
    rw [← hL0]
    refine ab (dwR fun K hK => ?_)
    repeat refine evF ?_
    refine aa (hK _ (dwK [1, 2, 4, 6, 29, 30, 31] ?_))
    clear hK K
    refine ab (dwI (fun hb => ?_) (fun hb => ?_))
    ·have hk1 : k < N.ends.length := by simpa using hb
     have hdl : (bo N k).length = N.ends.length := (di hs hk1).len
     have hns : nrL N m (k + 1) = L0.set k (az N m k) := by rw [hL0, Q3]
     have h0 : L0 = L0.set k (eb (fun w => inB (gi (bo N k) w) 1 m) 0) := by
      rw [Jm]; exact Qe (by rw [hL0]; exact Wr hk1)
     refine ai ?_
     show DW _ _ _ _ _
     refine ab (ae ?_)
     refine ab (dwR fun K hK => ?_)
     repeat refine evF ?_
     refine aa (hK _ (dwK [1, 2, 4, 6, 7, 29, 30] ?_))
     clear hK K
     have dfx := And.intro dfx (@hdl)
     refine ab (dwR fun K hK => ?_)
     repeat refine evF ?_
     have dfx := And.intro dfx (@hdl)
     refine clF rfl ⟨rfl, _, rfl⟩ (by omega) (by first | exact Rh) (jx ⟨false, f.t1, f.o2, f.t2, false, f.t3, false, f.t4⟩ N k hs hk1 (by omega) hdg) ?_
     rintro _ rfl
     repeat refine evF ?_
     have dfk := @hdl
     refine aa (hK _ (a8 [1, 2, 4, 6, 7, 29, 30, 35, 36, 37] ?_))
     clear hK K
     refine ae ?_
     refine ax (X := Nat) (fun u => u ≤ N.ends.length) (fun u => [(37, .c (.p (.int .i64 u)))]) (fun u => [((6, 0), ⟨none, [.sl true 25 1 ((L0.set k (eb (fun w => inB (gi (bo N k) w) 1 m) u)).map (lsC 3))]⟩)]) (fun u => N.ends.length - u) 0 (Nat.zero_le _) (by first | rfl | (simp only [ac, C.at, C.put, List.dropLast, List.isPrefixOf, simprocAttr, Int.natCast_zero, ← h0] <;> rfl)) ?_
     rintro u hu
     intro E hE
     simp only [ac, C.at, C.put, List.dropLast, List.isPrefixOf, simprocAttr] at hE
     subst hE
     have hul := ug (fun w => inB (gi (bo N k) w) 1 m) u
     obtain ⟨L1, hL1⟩ : ∃ L1, L1 = L0.set k (eb (fun w => inB (gi (bo N k) w) 1 m) u) := ⟨_, rfl⟩
     have hll1 : L1.length = N.ends.length := by rw [hL1, List.length_set, hll]
     have hlg1 : lg L1 k = eb (fun w => inB (gi (bo N k) w) 1 m) u := by rw [hL1, Hm (by rw [List.length_set]; omega)]; simp
     rw [← hL1]
     refine ab (dwR fun K hK => ?_)
     repeat refine evF ?_
     refine aa (hK _ (dwK [1, 2, 4, 6, 7, 29, 30, 35, 36, 37, 38] ?_))
     clear hK K
     refine ab (dwI (fun hb => ?_) (fun hb => ?_))
     ·have hu1 : u < N.ends.length := by simpa using hb
      refine ai ?_
      show DW _ _ _ _ _
      refine ab (ae ?_)
      have dfx := And.intro dfx (@Int.toNat_natCast)
      refine ab (dwR fun K hK => ?_)
      repeat refine evF ?_
      refine aa (hK _ (dwK [1, 2, 4, 6, 7, 8, 9, 29, 30, 35, 36, 37] ?_))
      clear hK K
      refine ab (dwR fun K hK => ?_)
      repeat refine evF ?_
      refine clF rfl ⟨rfl, _, rfl⟩ (by omega) (by first | exact j3) (ft (gi (bo N k) u) 1 m) ?_
      rintro _ rfl
      repeat refine evF ?_
      refine aa (hK _ (dwK [1, 2, 4, 6, 7, 8, 29, 30, 35, 36, 37, 44] ?_))
      clear hK K
      refine dwI (fun hb => ?_) (fun hb => ?_)
      ·have hsn : L1.set k (eb (fun w => inB (gi (bo N k) w) 1 m) u ++ [(u : Int)]) = L0.set k (eb (fun w => inB (gi (bo N k) w) 1 m) (u + 1)) := by
        rw [hL1, List.set_set, qr (by simpa using hb)]
       have dfx := And.intro dfx (And.intro @Int.toNat_natCast (And.intro @Wj (And.intro @hlg1 @List.length_modify.{0})))
       refine dwR fun K hK => ?_
       repeat refine evF ?_
       have dfk := And.intro @fo (And.intro @Ud @hsn)
       refine aa (hK _ (a8 [1, 2, 4, 6, 7, 29, 30, 35, 36, 37] ?_))
       clear hK K
       refine dwR fun K hK => ?_
       repeat refine evF ?_
       have dfk := @cd
       refine aa (hK _ ?_)
       clear hK K
       show ∃ x, _ ∧ _ ∧ Weak _ _
       refine ⟨u + 1, ?_, ?_, ay [1, 2, 4, 6, 7, 29, 30, 35, 36, 37]⟩
       ·omega
       ·omega
      ·have hsn : L1 = L0.set k (eb (fun w => inB (gi (bo N k) w) 1 m) (u + 1)) := by
        rw [hL1, uf (by simpa using hb)]
       rw [hsn]
       refine ai ?_
       show DW _ _ _ _ _
       refine dwR fun K hK => ?_
       repeat refine evF ?_
       have dfk := @cd
       refine aa (hK _ ?_)
       clear hK K
       show ∃ x, _ ∧ _ ∧ Weak _ _
       refine ⟨u + 1, ?_, ?_, ay [1, 2, 4, 6, 7, 29, 30, 35, 36, 37]⟩
       ·omega
       ·omega
     ·have hu2 : u = N.ends.length := by
       have : ¬ u < N.ends.length := by simpa using hb
       omega
      have hfin : L1 = nrL N m (k + 1) := by rw [hns, hL1, hu2]; rfl
      rw [hfin]
      refine ap ?_
      refine dwK [1, 2, 4, 6, 29, 30] ?_
      refine dwR fun K hK => ?_
      repeat refine evF ?_
      have dfk := @cd
      refine aa (hK _ ?_)
      clear hK K
      show ∃ x, _ ∧ _ ∧ Weak _ _
      refine ⟨k + 1, ?_, ?_, ay [1, 2, 4, 6, 29, 30]⟩
      ·omega
      ·omega
    ·have hk2 : k = N.ends.length := by
      have : ¬ k < N.ends.length := by simpa using hb
      omega
     rw [hL0, hk2, T6]
     have hz2 : N.ends = lx N m N.ends 0 := (Df rfl).symm
     have htl := kg N.ends.length (az N m)
     refine ap ?_
     refine dwK [1, 2, 4, 6] ?_
     refine Bo 6 [1, 2, 4, 6] rfl rfl (by simp only [ac, C.at, C.put, List.dropLast, List.isPrefixOf, simprocAttr, Gx, Dd, t8, t7, ml]; exact rfl) ?_
     refine ab (dwR fun K hK => ?_)
     repeat refine evF ?_
     refine clF rfl ⟨rfl, _, rfl⟩ (by omega) (by first | exact Zf) (Co ⟨false, f.t1, f.o2, f.t2, false, f.t3, false, f.t4⟩ N hf) ?_
     rintro _ rfl
     repeat refine evF ?_
     have dfk := @netO.eq_1
     refine aa (hK _ (a8 [4, 6, 10] ?_))
     clear hK K
     refine ab ?_
     refine ab (dwR fun K hK => ?_)
     repeat refine evF ?_
     refine aa (hK _ (dwK [4, 6, 10, 61, 62] ?_))
     clear hK K
     refine ae ?_
     refine ax (X := Nat) (fun v => v ≤ N.ends.length) (fun v => [(62, .c (.p (.int .i64 v)))]) (fun v => [((10, 0), ⟨some 27, [.sl true 82 1 ((lx N m N.ends v).map (esC 35)), .sl true 3 1 (N.ids.map iC), .sl true 3 1 (N.inputs.map iC)]⟩)]) (fun v => N.ends.length - v) 0 (Nat.zero_le _) (by first | rfl | (simp only [ac, C.at, C.put, List.dropLast, List.isPrefixOf, simprocAttr, Int.natCast_zero, ← hz2] <;> rfl)) ?_
     rintro v hv
     intro E hE
     simp only [ac, C.at, C.put, List.dropLast, List.isPrefixOf, simprocAttr] at hE
     subst hE
     obtain ⟨Q0, hQ0⟩ : ∃ Q0, Q0 = lx N m N.ends v := ⟨_, rfl⟩
     have hql : Q0.length = N.ends.length := by rw [hQ0, mm]
     rw [← hQ0]
     refine ab (dwR fun K hK => ?_)
     repeat refine evF ?_
     refine aa (hK _ (dwK [4, 6, 10, 61, 62, 63] ?_))
     clear hK K
     refine ab (dwI (fun hb => ?_) (fun hb => ?_))
     ·have hv1 : v < N.ends.length := by simpa using hb
      have hlg : lg (nh N.ends.length (az N m)) v = az N m v := sn hv1
      have hns : lx N m N.ends (v + 1) = Q0.set v (ik N m v) := by rw [hQ0, Dg hv1]
      have hnkl := ja (N := N) (k := m) v
      have h0 : Q0.set v [] = Q0.set v ((ik N m v).take 0) := by rw [List.take_zero]
      refine ai ?_
      show DW _ _ _ _ _
      refine ab (ae ?_)
      refine ab (dwR fun K hK => ?_)
      repeat refine evF ?_
      refine aa (hK _ (dwK [4, 6, 10, 11, 61, 62] ?_))
      clear hK K
      have dfx := And.intro dfx (And.intro @Int.toNat_natCast @dw)
      refine ab (dwR fun K hK => ?_)
      repeat refine evF ?_
      refine aa (hK _ (dwK [4, 6, 10, 11, 61, 62] ?_))
      clear hK K
      refine xe 10 [(0, 0), (v, 0)] 35 2 (by decide) (by simp only [ac, C.at, C.put, List.dropLast, List.isPrefixOf, simprocAttr]; exact rfl) (by have hh : v < Q0.length := (by omega); exact Rt (ij hh)) [4, 6, 10, 11, 61, 62] (by simp only [ac, C.at, C.put, List.dropLast, List.isPrefixOf, simprocAttr, List.modify_cons, List.modifyHead, Uo]; exact rfl) ?_
      have dfx := And.intro dfx (And.intro @Int.toNat_natCast @hlg)
      refine ab (dwR fun K hK => ?_)
      repeat refine evF ?_
      have dfk := @hlg
      refine aa (hK _ (a8 [4, 6, 10, 11, 61, 62, 72, 73, 74] ?_))
      clear hK K
      refine ae ?_
      refine ax (X := Nat) (fun i => i ≤ (az N m v).length) (fun i => [(74, .c (.p (.int .i64 i)))]) (fun i => [((10, 0), ⟨some 27, [.sl true 82 1 ((Q0.set v ((ik N m v).take i)).map (esC 35)), .sl true 3 1 (N.ids.map iC), .sl true 3 1 (N.inputs.map iC)]⟩)]) (fun i => (az N m v).length - i) 0 (Nat.zero_le _) (by first | rfl | (simp only [ac, C.at, C.put, List.dropLast, List.isPrefixOf, simprocAttr, Int.natCast_zero, ← h0] <;> rfl)) ?_
      rintro i hi
      intro E hE
      simp only [ac, C.at, C.put, List.dropLast, List.isPrefixOf, simprocAttr] at hE
      subst hE
      obtain ⟨Q1, hQ1⟩ : ∃ Q1, Q1 = Q0.set v ((ik N m v).take i) := ⟨_, rfl⟩
      have hql1 : Q1.length = N.ends.length := by rw [hQ1, List.length_set, hql]
      have hglv : gl Q1 v = (ik N m v).take i := by rw [hQ1, ge (by rw [List.length_set]; omega)]; simp
      rw [← hQ1]
      refine ab (dwR fun K hK => ?_)
      repeat refine evF ?_
      refine aa (hK _ (dwK [4, 6, 10, 11, 61, 62, 72, 73, 74, 75] ?_))
      clear hK K
      refine ab (dwI (fun hb => ?_) (fun hb => ?_))
      ·have hi1 : i < (az N m v).length := by simpa using hb
       obtain ⟨w, q, hw, hwl, hq, hql2, hqv, hqn⟩ := L6 hs hv1 hi1
       have hlgw : lg (nh N.ends.length (az N m)) w = az N m w := sn hwl
       have hpg : gp (ik N m v) i = ((w : Int), (q : Int)) := by rw [Ex hi1, hw, Int.toNat_natCast, hq]
       have hst : Q1.set v ((ik N m v).take i ++ [((w : Int), (q : Int))]) = Q0.set v ((ik N m v).take (i + 1)) := by
        rw [hQ1, List.set_set, zq (by rw [jk]; exact hi1), hpg]
       have htk : ((ik N m v).take i).length ≤ 1000 := by rw [List.length_take]; omega
       have hnkw := ja (N := N) (k := m) w
       refine ai ?_
       show DW _ _ _ _ _
       refine ab (ae ?_)
       have dfx := And.intro dfx (@hw)
       refine ab (dwR fun K hK => ?_)
       repeat refine evF ?_
       have dfk := @hw
       refine aa (hK _ (a8 [4, 6, 10, 11, 13, 61, 62, 72, 73, 74] ?_))
       clear hK K
       refine gk ep (fun j r => match j with | 14 => r = [.c (.p (.int .i64 (sx (az N m w) v)))] | _ => True) fun K hK => ?_
       repeat (apply zc; (focus exact rfl); (focus simp (disch := first | omega | (intros; contradiction)) only [ac, bd, l7, C.at, C.put, List.dropLast, List.isPrefixOf, simprocAttr, an, bb, cl, bm, bj, if_pos, b7, bn, b4, b0, br, a7, a6, ew, dm, fb , ep, mr, Int.toNat_natCast, dw, ij, hglv, hlgw, List.length_modify]); (focus (simp (disch := first | omega | (intros; contradiction)) only [ac, bd, C.at, C.put, List.dropLast, List.isPrefixOf, simprocAttr, an, bb, cl, bm, bj, if_pos, b7, bn, b4, b0, br, a7, a6, ew, dm, fb , ep, mr, Int.toNat_natCast, dw, ij, hglv, hlgw, List.length_modify]; exact rfl)))
       refine xg rfl ⟨rfl, _, rfl⟩ (by omega) (by first | exact mr) (by simp only [ac, bd, l7, C.at, C.put, List.dropLast, List.isPrefixOf, simprocAttr, an, bb, cl, bm, bj, if_pos, b7, bn, b4, b0, br, a7, a6, ew, dm, fb , ep, mr, Int.toNat_natCast, dw, ij, hglv, hlgw, hq, List.length_modify]) (by simp only [ac, bd, l7, C.at, C.put, List.dropLast, List.isPrefixOf, simprocAttr, an, bb, cl, bm, bj, if_pos, b7, bn, b4, b0, br, a7, a6, ew, dm, fb , ep, mr, Int.toNat_natCast, dw, ij, hglv, hlgw, hq, List.length_modify]) (by simp only [ac, bd, l7, C.at, C.put, List.dropLast, List.isPrefixOf, simprocAttr, an, bb, cl, bm, bj, if_pos, b7, bn, b4, b0, br, a7, a6, ew, dm, fb , ep, mr, Int.toNat_natCast, dw, ij, hglv, hlgw, hq, List.length_modify]) (by simp (disch := first | omega | (intros; contradiction)) only [ac, bd, C.at, C.put, List.dropLast, List.isPrefixOf, simprocAttr, an, bb, cl, bm, bj, if_pos, b7, bn, b4, b0, br, a7, a6, ew, dm, fb , ep, mr, Int.toNat_natCast, dw, ij, hglv, hlgw, hq, List.length_modify] <;> exact rfl) (Mu true 3 (az N m w) v (by omega)) rfl ⟨_, rfl⟩ ?_
       rintro _ rfl
       repeat (apply zc; (focus exact rfl); (focus simp (disch := first | omega | (intros; contradiction)) only [ac, bd, l7, C.at, C.put, List.dropLast, List.isPrefixOf, simprocAttr, an, bb, cl, bm, bj, if_pos, b7, bn, b4, b0, br, a7, a6, ew, dm, fb , ep, mr, Int.toNat_natCast, dw, ij, hglv, hlgw, hq, List.length_modify]); (focus (simp (disch := first | omega | (intros; contradiction)) only [ac, bd, C.at, C.put, List.dropLast, List.isPrefixOf, simprocAttr, an, bb, cl, bm, bj, if_pos, b7, bn, b4, b0, br, a7, a6, ew, dm, fb , ep, mr, Int.toNat_natCast, dw, ij, hglv, hlgw, hq, List.length_modify]; exact rfl)))
       have dfk := And.intro @ni (And.intro @q7 (And.intro @hq @hst))
       refine bt (hK _ (a8 [4, 6, 10, 11, 61, 62, 72, 73, 74] ?_))
       clear hK K
       refine dwR fun K hK => ?_
       repeat refine evF ?_
       have dfk := @cd
       refine aa (hK _ ?_)
       clear hK K
       show ∃ x, _ ∧ _ ∧ Weak _ _
       refine ⟨i + 1, ?_, ?_, ay [4, 6, 10, 11, 61, 62, 72, 73, 74]⟩
       ·omega
       ·omega
      ·have hi2 : i = (az N m v).length := by
        have : ¬ i < (az N m v).length := by simpa using hb
        omega
       have hfin : Q1 = lx N m N.ends (v + 1) := by rw [hns, hQ1, hi2, ← jk, List.take_length]
       rw [hfin]
       refine ap ?_
       refine dwK [4, 6, 10, 61, 62] ?_
       refine dwR fun K hK => ?_
       repeat refine evF ?_
       have dfk := @cd
       refine aa (hK _ ?_)
       clear hK K
       show ∃ x, _ ∧ _ ∧ Weak _ _
       refine ⟨v + 1, ?_, ?_, ay [4, 6, 10, 61, 62]⟩
       ·omega
       ·omega
     ·have hv2 : v = N.ends.length := by
       have : ¬ v < N.ends.length := by simpa using hb
       omega
      rw [hQ0, hv2, Gz]
      refine ap ?_
      refine dwK [4, 10] ?_
      refine ab (dwR fun K hK => ?_)
      repeat refine evF ?_
      refine gmF rfl ⟨rfl, _, rfl⟩ (by omega) (by first | exact Ze) (N0 (dq N m) hpi) ?_
      rintro _ rfl
      refine Ot ?_
      repeat refine evF ?_
      have dfk := @netO.eq_1
      refine aa (hK _ (a8 [4, 5] ?_))
      clear hK K
      exact ak (aq Tryz.results27 (.two (.cell 4 _ _ _ _ rfl rfl an rfl rfl (am _)) (.plain _ _ rfl)) (by decide) (by rw [Gy hg hin]; rfl))
  ·have dfx := And.intro dfx (And.intro @hg @hin)
   repeat refine evF ?_
   have dfk := And.intro @hg @hin
   refine aa (hK _ (a8 [1, 2, 4, 21] ?_))
   clear hK K
   refine dwI (fun hb => ?_) (fun hb => ?_)
   ·refine ab (dwR fun K hK => ?_)
    repeat refine evF ?_
    refine aa (hK _ (dwK [4, 5] ?_))
    clear hK K
    refine cw 4 0 82 1 (by decide) rfl rfl [4, 5] (by simp only [ac, C.at, C.put, List.dropLast, List.isPrefixOf, simprocAttr, List.modify_zero_cons, List.modify_succ_cons]; exact rfl) ?_
    refine cw 4 1 3 1 (by decide) rfl rfl [4, 5] (by simp only [ac, C.at, C.put, List.dropLast, List.isPrefixOf, simprocAttr, List.modify_zero_cons, List.modify_succ_cons]; exact rfl) ?_
    refine cw 4 2 3 1 (by decide) rfl rfl [4, 5] (by simp only [ac, C.at, C.put, List.dropLast, List.isPrefixOf, simprocAttr, List.modify_zero_cons, List.modify_succ_cons]; exact rfl) ?_
    exact ak (aq Tryz.results27 (.two (.cell 4 _ _ _ _ rfl rfl an rfl rfl (am net0)) (.plain _ _ rfl)) (by decide) (by rw [y0 (by rw [hg, hin]; rfl)]; rfl))
   ·cases hb
 ·have dfx := And.intro dfx (@hg)
  repeat refine evF ?_
  have dfx := And.intro dfx (@hg)
  refine csF ?_
  repeat refine evF ?_
  have dfx := And.intro dfx (@hg)
  repeat refine evF ?_
  have dfk := @hg
  refine aa (hK _ (a8 [1, 2, 4, 21] ?_))
  clear hK K
  refine dwI (fun hb => ?_) (fun hb => ?_)
  ·refine ab (dwR fun K hK => ?_)
   repeat refine evF ?_
   refine aa (hK _ (dwK [4, 5] ?_))
   clear hK K
   refine cw 4 0 82 1 (by decide) rfl rfl [4, 5] (by simp only [ac, C.at, C.put, List.dropLast, List.isPrefixOf, simprocAttr, List.modify_zero_cons, List.modify_succ_cons]; exact rfl) ?_
   refine cw 4 1 3 1 (by decide) rfl rfl [4, 5] (by simp only [ac, C.at, C.put, List.dropLast, List.isPrefixOf, simprocAttr, List.modify_zero_cons, List.modify_succ_cons]; exact rfl) ?_
   refine cw 4 2 3 1 (by decide) rfl rfl [4, 5] (by simp only [ac, C.at, C.put, List.dropLast, List.isPrefixOf, simprocAttr, List.modify_zero_cons, List.modify_succ_cons]; exact rfl) ?_
   exact ak (aq Tryz.results27 (.two (.cell 4 _ _ _ _ rfl rfl an rfl rfl (am net0)) (.plain _ _ rfl)) (by decide) (by rw [y0 (by rw [hg]; rfl)]; rfl))
  ·cases hb
theorem Cf (f : NF) (N : Net) (x : Int) (hi2 : N.inputs.length ≤ 1000000) (hi3 : N.ids.length ≤ 1000000) : DCalls Tryz.prog 28 [.agg (bv f N), .c (.p (.int .i64 x))] (fun r => r = [.own true (netO (wg N x).1), .c (.p (.bool (wg N x).2))]) := by
 refine ao Tryz.func28 rfl (by rw [Tryz.ntmps28]; simp) fun w0 => ?_
 rw [Tryz.ntmps28]
 have dfx := Kk
 simp only [ce, be, Arg.av, bv, cm, ints, ends]
 refine ab (dwR fun K hK => ?_)
 repeat refine evF ?_
 refine aa (hK _ (dwK [1, 2, 4] ?_))
 clear hK K
 refine ab ?_
 refine ab (dwR fun K hK => ?_)
 repeat refine evF ?_
 refine clF rfl ⟨rfl, _, rfl⟩ (by omega) (by first | exact Rg | exact Rf) (Hh ⟨false, f.t1, f.o2, f.t2, false, f.t3, false, f.t4⟩ N) ?_
 rintro _ rfl
 repeat refine evF ?_
 obtain hg | hg := Bool.eq_false_or_eq_true (bz N)
 ·have dfx := And.intro dfx (@hg)
  repeat refine evF ?_
  have dfx := And.intro dfx (@hg)
  refine cgF rfl rfl ⟨rfl, _, rfl⟩ (by omega) (by first | exact Rg | exact Rf) (Rv x 1 40) ?_
  rintro _ rfl
  repeat refine evF ?_
  obtain hin | hin := Bool.eq_false_or_eq_true (inB x 1 40)
  ·obtain ⟨m, rfl⟩ : ∃ m : Nat, x = m := ⟨x.toNat, by have := cf.1 hin; omega⟩
   have hm2 := cf.1 hin
   have dfx := And.intro dfx (And.intro @hg @hin)
   repeat refine evF ?_
   have dfk := And.intro @hg @hin
   refine aa (hK _ (a8 [1, 2, 4, 13] ?_))
   clear hK K
   refine dwI (fun hb => ?_) (fun hb => ?_)
   ·cases hb
   ·refine ai ?_
    show DW _ _ _ _ _
    refine ab (dwR fun K hK => ?_)
    repeat refine evF ?_
    refine clF rfl ⟨rfl, _, rfl⟩ (by omega) (by first | exact Vp | exact Vq) (Of ⟨false, f.t1, f.o2, f.t2, false, f.t3, false, f.t4⟩ N m hg hi2 hi3 (by omega)) ?_
    rintro _ rfl
    repeat refine evF ?_
    have dfx := And.intro dfx (@netO.eq_1)
    refine gmF rfl ⟨rfl, _, rfl⟩ (by omega) (by first | exact Vp | exact Vq) (Ww (dq N m)) ?_
    rintro _ rfl
    refine Ot ?_
    repeat refine evF ?_
    have dfk := @netO.eq_1
    refine aa (hK _ (a8 [4, 5] ?_))
    clear hK K
    exact ak (aq Tryz.results28 (.two (.cell 4 _ _ _ _ rfl rfl an rfl rfl (am _)) (.plain _ _ rfl)) (by decide) (by rw [Gy hg hin]; rfl))
  ·have dfx := And.intro dfx (And.intro @hg @hin)
   repeat refine evF ?_
   have dfk := And.intro @hg @hin
   refine aa (hK _ (a8 [1, 2, 4, 13] ?_))
   clear hK K
   refine dwI (fun hb => ?_) (fun hb => ?_)
   ·refine ab (dwR fun K hK => ?_)
    repeat refine evF ?_
    refine aa (hK _ (dwK [4, 5] ?_))
    clear hK K
    refine cw 4 0 82 1 (by decide) rfl rfl [4, 5] (by simp only [ac, C.at, C.put, List.dropLast, List.isPrefixOf, simprocAttr, List.modify_zero_cons, List.modify_succ_cons]; exact rfl) ?_
    refine cw 4 1 3 1 (by decide) rfl rfl [4, 5] (by simp only [ac, C.at, C.put, List.dropLast, List.isPrefixOf, simprocAttr, List.modify_zero_cons, List.modify_succ_cons]; exact rfl) ?_
    refine cw 4 2 3 1 (by decide) rfl rfl [4, 5] (by simp only [ac, C.at, C.put, List.dropLast, List.isPrefixOf, simprocAttr, List.modify_zero_cons, List.modify_succ_cons]; exact rfl) ?_
    exact ak (aq Tryz.results28 (.two (.cell 4 _ _ _ _ rfl rfl an rfl rfl (am net0)) (.plain _ _ rfl)) (by decide) (by rw [y0 (by rw [hg, hin]; rfl)]; rfl))
   ·cases hb
 ·have dfx := And.intro dfx (@hg)
  repeat refine evF ?_
  have dfx := And.intro dfx (@hg)
  refine csF ?_
  repeat refine evF ?_
  have dfx := And.intro dfx (@hg)
  repeat refine evF ?_
  have dfk := @hg
  refine aa (hK _ (a8 [1, 2, 4, 13] ?_))
  clear hK K
  refine dwI (fun hb => ?_) (fun hb => ?_)
  ·refine ab (dwR fun K hK => ?_)
   repeat refine evF ?_
   refine aa (hK _ (dwK [4, 5] ?_))
   clear hK K
   refine cw 4 0 82 1 (by decide) rfl rfl [4, 5] (by simp only [ac, C.at, C.put, List.dropLast, List.isPrefixOf, simprocAttr, List.modify_zero_cons, List.modify_succ_cons]; exact rfl) ?_
   refine cw 4 1 3 1 (by decide) rfl rfl [4, 5] (by simp only [ac, C.at, C.put, List.dropLast, List.isPrefixOf, simprocAttr, List.modify_zero_cons, List.modify_succ_cons]; exact rfl) ?_
   refine cw 4 2 3 1 (by decide) rfl rfl [4, 5] (by simp only [ac, C.at, C.put, List.dropLast, List.isPrefixOf, simprocAttr, List.modify_zero_cons, List.modify_succ_cons]; exact rfl) ?_
   exact ak (aq Tryz.results28 (.two (.cell 4 _ _ _ _ rfl rfl an rfl rfl (am net0)) (.plain _ _ rfl)) (by decide) (by rw [y0 (by rw [hg]; rfl)]; rfl))
  ·cases hb
theorem Cx (bs : List Int) (hby : de bs) : dt Tryz.prog 26 [.c (f5 bs)] (fun r => ∃ (N : Net) (x : Int), r = [.agg (netZ N), .c (.p (.int .i64 x))] ∧ Tame N ∧ td [1, 1, 2, 2, 3, 40, 41, 0] x) := by
 refine Ei (by simp [Arg.isIo]) Tryz.func26 rfl (by rw [Tryz.ntmps26]; simp) fun w0 => ?_
 rw [Tryz.ntmps26]
 have dfx := Kk
 simp only [ce, be, Arg.av, f5]
 refine ab (dwR fun K hK => ?_)
 repeat refine evF ?_
 refine aa (hK _ (dwK [0, 2] ?_))
 clear hK K
 refine ab (dwR fun K hK => ?_)
 repeat refine evF ?_
 refine aa (hK _ (dwK [2, 4, 7] ?_))
 clear hK K
 refine ab (dwR fun K hK => ?_)
 repeat refine evF ?_
 refine tc rfl ⟨rfl, _, rfl⟩ (by omega) (by first | exact Vr | exact Dp) (T3 bs 0 0 9 _ 0 rfl hby (Nat.zero_le 0) (by omega) (by omega) (by omega)) ?_
 rintro _ ⟨p1, s1, _, rfl, hp1, N1, rfl, ht1⟩
 refine ioF ?_
 repeat refine evF ?_
 refine n8 rfl ⟨rfl, _, rfl⟩ (by omega) (by first | exact Vr | exact Dp) (vh bs p1 s1 true 3 [1, 1, 2, 2, 3, 40, 41, 0] _ hby hp1 (by omega) (by simp) (by simp)) ?_
 rintro _ ⟨p2, s2, _, rfl, hp2, x2, rfl, hx2⟩
 refine ioF ?_
 repeat refine evF ?_
 have dfk := @netO.eq_1
 refine aa (hK _ (a8 [2, 3, 7] ?_))
 clear hK K
 refine Kh 2 [2, 3] (by simp only [ac, C.at, C.put, List.dropLast, List.isPrefixOf, simprocAttr]; exact rfl) ?_
 exact ak (py Tryz.results26 (.two (.cell 2 _ _ _ _ rfl rfl an rfl rfl rfl) (.re _ _ (.plain _ _ rfl))) (by decide) ⟨N1, _, rfl, ht1, hx2⟩)
end Go.Proofs.YtdiiggpohcjppaaGreat
