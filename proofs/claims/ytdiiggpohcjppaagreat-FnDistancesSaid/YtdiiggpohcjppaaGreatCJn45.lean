/- Parts of the proof, joined: Ldp, Dms2, Dms3, Dms4, Dms5. -/
import Derived.Test.YtdiiggpohcjppaaGreatCMtr2
import Derived.Test.YtdiiggpohcjppaaGreatCJn44
import Derived.Test.YtdiiggpohcjppaaGreatCJn10
set_option linter.unusedSimpArgs false
set_option linter.unusedVariables false
namespace Go.Proofs.YtdiiggpohcjppaaGreat
section
theorem nearL_gi {N : Net} {u m j : Nat} (hm : m = (gl N.ends u).length) (hj : j < m) : gi (nearL N u m) j = (gp (gl N.ends u) j).1 := by
 have h1 : j < (nearL N u m).length := by unfold nearL; simp; omega
 rw [gi_lt h1, gp_lt (by omega)]
 simp [nearL]
theorem sumTo_mono {f : Nat → Int} (h : ∀ i, 0 ≤ f i) {m : Nat} : ∀ {n}, m ≤ n → sumTo m f ≤ sumTo n f := fun {n} hmn => by
 obtain ⟨d, rfl⟩ := Nat.exists_eq_add_of_le hmn
 induction d with
 | zero => exact Int.le_refl _
 | succ d ih =>
  have h1 := ih (by omega)
  have h2 : sumTo (m + (d + 1)) f = sumTo (m + d) f + f (m + d) := rfl
  have := h (m + d)
  omega
theorem cen_first {M : Net} (h : conB M = true) : ∃ cv : Nat, gi (cenL M) 0 = cv ∧ cv < M.ends.length ∧ 0 < (cenL M).length ∧ goodB M = true ∧ mx0 (dists M cv) ≤ mx0 (eccs M) ∧ mx0 (eccs M) ≤ 2 * mx0 (dists M cv) := by
 obtain ⟨hg, hc⟩ := Bool.and_eq_true_iff.1 h
 obtain ⟨hs, hn, -, -⟩ := good_all hg
 have h0 : 0 < M.ends.length := by omega
 have hl : (eccs M).length = M.ends.length := tab_len _ _
 have hat : ∀ {j}, j < M.ends.length → gi (eccs M) j = ecc M j := fun hj => gi_tab hj
 have hmem : ∀ {j}, j < M.ends.length → ecc M j ∈ eccs M := fun {j} hj => by
  rw [← hat hj, gi_lt (by omega)]; exact List.getElem_mem _
 have hof : ∀ {x}, x ∈ eccs M → ∃ j, j < M.ends.length ∧ gi (eccs M) j = x ∧ x = ecc M j := fun {x} hx => by
  obtain ⟨j, hj, rfl⟩ := List.getElem_of_mem hx
  exact ⟨j, by omega, gi_lt hj, by rw [← hat (by omega), gi_lt hj]⟩
 have hmn : mn0 (eccs M) ∈ eccs M := by
  rcases mn0_mem (eccs M) with h | h
  ·have h1 := mn0_le (hmem h0)
   have h2 := ecc_bnd hs h0
   omega
  ·exact h
 obtain ⟨j, hj, hje, -⟩ := hof hmn
 have hcen : cenL M = pickT (fun j => gi (eccs M) j == mn0 (eccs M)) M.ends.length := by unfold cenL; rw [if_pos h]
 obtain ⟨hp, cv, hcv, hcl, -⟩ := pickT_head (p := fun j => gi (eccs M) j == mn0 (eccs M)) hj (by simp [hje])
 have hcd := (connB_iff hs h0).1 hc
 have hall : ∀ u, u < M.ends.length → 0 ≤ gi (dists M cv) u := fun u hu => by
  have h1 : 0 ≤ gi (dists M cv) 0 := by rw [dist_sym hs hcl h0]; exact hcd cv hcl
  obtain ⟨k, hk⟩ := Int.eq_ofNat_of_zero_le (hcd u hu)
  exact (dist_tri hs hcl h0 h1 k u hu hk).1
 refine ⟨cv, by rw [hcen]; exact hcv, hcl, by rw [hcen]; exact hp, hg, mx0_ge (hmem hcl), ?_⟩
 rcases mx0_mem (eccs M) with h | h
 ·have := ecc_bnd hs hcl
  have e : ecc M cv = mx0 (dists M cv) := rfl
  omega
 ·obtain ⟨v, hv, -, hve⟩ := hof h
  rw [hve]
  exact ecc_double hs hv hcl hall
end
section
open Go Go.RowKit
theorem l1Most_m (a b : Int) : DCalls Tryz.prog 123 [.c (.p (.int .i64 a)), .c (.p (.int .i64 b))] (fun r => r = [.c (.p (.int .i64 (max a b)))]) := dcalls_v fun w vs h1 h2 => by
 obtain ⟨u, v, rfl, g1, g2⟩ := args2 h1 h2
 rw [argI g1, argI g2]
 exact (l1Most_any a b w).mono fun _ _ h => RetQ.v h
theorem l1All_d (o : Bool) (t : TypeId) (xs : List Int) (lo hi : Int) : DCalls Tryz.prog 100 [.c (.sl o t 1 (xs.map iC)), .c (.p (.int .i64 lo)), .c (.p (.int .i64 hi))] (fun r => r = [.c (.p (.bool (allB xs lo hi)))]) := dcalls_v fun w vs h1 h2 => by
 obtain ⟨u, v, t2, rfl, g1, g2, g3⟩ := args3 h1 h2
 rw [argI g2, argI g3]
 exact (l1All_any u xs lo hi w (RO_ints g1)).mono fun _ _ h => RetQ.v h
theorem mx0_eccT (N : Net) (k : Nat) : mx0 (eccT N (k + 1)) = max (mx0 (eccT N k)) (ecc N k) := by
 unfold mx0
 rw [eccT_succ, List.foldl_append]; rfl
theorem conn_all {N : Net} (hg : goodB N = true) : allB (dists N 0) 0 40 = connB N 0 := by
 have hs : Sym N.ends := (goodB_fine hg).sym
 have hn := good_len hg
 have h0 : 0 < N.ends.length := by omega
 have hd := dists_is hs h0
 rw [Bool.eq_iff_iff, connB_iff hs h0]
 constructor
 ·intro h w hw
  exact (inB_iff.1 (allB_iff.1 h w (by rw [hd.len]; exact hw))).1
 ·intro h
  refine allB_iff.2 fun w hw => inB_iff.2 ?_
  rw [hd.len] at hw
  have := dist_lt hs h0 hw
  exact ⟨h w hw, by omega⟩
theorem dfxDms2 : type_of% (And.intro tab27 (And.intro tab25 (And.intro tab3 (And.intro tab24 (And.intro tab82 (And.intro @if_pos.{1} (And.intro @rowi (And.intro tab35 (And.intro @getDe (And.intro @getDp (And.intro @getDi (And.intro @toNat0 (And.intro @toNat1 @trivial))))))))))))) := And.intro tab27 (And.intro tab25 (And.intro tab3 (And.intro tab24 (And.intro tab82 (And.intro @if_pos.{1} (And.intro @rowi (And.intro tab35 (And.intro @getDe (And.intro @getDp (And.intro @getDi (And.intro @toNat0 (And.intro @toNat1 @trivial))))))))))))
set_option maxRecDepth 8000 in
set_option maxHeartbeats 0 in
theorem meMost_d (o : Bool) (t : TypeId) (xs : List Int) (hl : xs.length ≤ 1000000) : DCalls Tryz.prog 75 [.c (.sl o t 1 (xs.map iC))] (fun r => r = [.c (.p (.int .i64 (mx0 xs)))]) := by
 refine dcalls_of Tryz.func75 rfl (by rw [Tryz.ntmps75]; simp) fun w0 => ?_
 rw [Tryz.ntmps75]
 have dfx := dfxDms2
 simp only [initE, argsL, Arg.av, netC, endss, ints, ends]
 refine dw_seq (dwR fun K hK => ?_)
 repeat refine evF ?_
 refine aops_end (hK _ (dwK [0] ?_))
 clear hK K
 refine dw_seq (dwR fun K hK => ?_)
 repeat refine evF ?_
 refine aops_end (hK _ (dwK [0, 3] ?_))
 clear hK K
 refine dw_seq ?_
 refine dw_seq (dwR fun K hK => ?_)
 repeat refine evF ?_
 refine aops_end (hK _ (dwK [3, 6, 7, 8] ?_))
 clear hK K
 refine dw_block ?_
 refine dw_loopP (X := Nat) (fun k => k ≤ xs.length) (fun k => [(3, .c (.p (.int .i64 (mx0 (xs.take k))))), (8, .c (.p (.int .i64 k)))]) (fun k => []) (fun k => xs.length - k) 0 (Nat.zero_le _) (by first | rfl | (simp only [bunK, C.at, C.put, List.dropLast, List.isPrefixOf, Nat.reduceMul, Nat.reduceLT, Nat.reduceLeDiff, Nat.reduceBEq, Nat.reduceEqDiff, reduceCtorEq, Nat.reduceAdd, ↓reduceIte, Int.natCast_zero] <;> rfl)) ?_
 rintro k hk
 intro E hE
 simp only [bunK, C.at, C.put, List.dropLast, List.isPrefixOf, Nat.reduceMul, Nat.reduceLT, Nat.reduceLeDiff, Nat.reduceBEq, Nat.reduceEqDiff, reduceCtorEq, Nat.reduceAdd, ↓reduceIte] at hE
 subst hE
 refine dw_seq (dwR fun K hK => ?_)
 repeat refine evF ?_
 refine aops_end (hK _ (dwK [3, 6, 7, 8, 9] ?_))
 clear hK K
 refine dw_seq (dwI (fun hb => ?_) (fun hb => ?_))
 ·have hkl : k < xs.length := by simpa using hb
  have hns := mx0_take xs hkl
  refine dw_skip ?_
  show DW _ _ _ _ _
  refine dw_seq (dw_block ?_)
  refine dw_seq (dwR fun K hK => ?_)
  repeat refine evF ?_
  refine aops_end (hK _ (dwK [3, 5, 6, 7, 8] ?_))
  clear hK K
  refine dwR fun K hK => ?_
  repeat refine evF ?_
  refine clF rfl ⟨rfl, _, rfl⟩ (by omega) (by first | exact may123) (l1Most_m (mx0 (xs.take k)) (gi xs k)) ?_
  rintro _ rfl
  repeat refine evF ?_
  refine aops_end (hK _ (dwK [3, 6, 7, 8] ?_))
  clear hK K
  refine dwR fun K hK => ?_
  repeat refine evF ?_
  have dfk := And.intro @castS @hns
  refine aops_end (hK _ ?_)
  clear hK K
  show ∃ x, _ ∧ _ ∧ Weak _ _
  refine ⟨k + 1, ?_, ?_, weakFk [3, 6, 7, 8]⟩
  ·omega
  ·omega
 ·have hk2 : k = xs.length := by
   have : ¬ (k : Int) < (xs.length : Int) := by simpa using hb
   omega
  refine dw_leave3 ?_
  refine dw_keep [3] (by simp only [bunK, C.at, C.put, List.dropLast, List.isPrefixOf, Nat.reduceMul, Nat.reduceLT, Nat.reduceLeDiff, Nat.reduceBEq, Nat.reduceEqDiff, reduceCtorEq, Nat.reduceAdd, ↓reduceIte]; exact rfl) ?_
  refine dw_seq (dwR fun K hK => ?_)
  repeat refine evF ?_
  refine aops_end (hK _ (dwK [2] ?_))
  clear hK K
  exact dw_ret (fin_ret Tryz.results75 (.one (.plain _ _ rfl)) (by decide) (by rw [hk2, List.take_length]))
set_option maxRecDepth 8000 in
set_option maxHeartbeats 0 in
theorem meConnected_d (f : NF) (N : Net) (hg : goodB N = true) : DCalls Tryz.prog 72 [.agg (netC f N)] (fun r => r = [.c (.p (.bool (connB N 0)))]) := by
 obtain ⟨hs, hn, hids, hdg⟩ := good_all hg
 have hca := conn_all hg
 refine dcalls_of Tryz.func72 rfl (by rw [Tryz.ntmps72]; simp) fun w0 => ?_
 rw [Tryz.ntmps72]
 have dfx := dfxDms2
 simp only [initE, argsL, Arg.av, netC, endss, ints, ends]
 refine dw_seq (dwR fun K hK => ?_)
 repeat refine evF ?_
 refine aops_end (hK _ (dwK [1] ?_))
 clear hK K
 refine dw_seq (dwR fun K hK => ?_)
 repeat refine evF ?_
 refine clF rfl ⟨rfl, _, rfl⟩ (by omega) (by first | exact may61 | exact may100) (meFrom_d ⟨false, f.t1, f.o2, f.t2, false, f.t3, false, f.t4⟩ N 0 hs (by omega) (by omega) hdg) ?_
 rintro _ rfl
 repeat refine evF ?_
 refine clF rfl ⟨rfl, _, rfl⟩ (by omega) (by first | exact may61 | exact may100) (l1All_d true 3 (dists N 0) 0 40) ?_
 rintro _ rfl
 repeat refine evF ?_
 have dfk := @hca
 refine aops_end (hK _ (dwKF [2] ?_))
 clear hK K
 exact dw_ret (fin_ret Tryz.results72 (.one (.plain _ _ rfl)) (by decide) rfl)
set_option maxRecDepth 8000 in
set_option maxHeartbeats 0 in
theorem meDiameter_d (f : NF) (N : Net) (hg : goodB N = true) : DCalls Tryz.prog 73 [.agg (netC f N)] (fun r => r = [.c (.p (.int .i64 (mx0 (eccs N))))]) := by
 obtain ⟨hs, hn, hids, hdg⟩ := good_all hg
 refine dcalls_of Tryz.func73 rfl (by rw [Tryz.ntmps73]; simp) fun w0 => ?_
 rw [Tryz.ntmps73]
 have dfx := dfxDms2
 simp only [initE, argsL, Arg.av, netC, endss, ints, ends]
 refine dw_seq (dwR fun K hK => ?_)
 repeat refine evF ?_
 refine aops_end (hK _ (dwK [1] ?_))
 clear hK K
 refine dw_seq (dwR fun K hK => ?_)
 repeat refine evF ?_
 refine aops_end (hK _ (dwK [1, 3] ?_))
 clear hK K
 refine dw_seq ?_
 refine dw_seq (dwR fun K hK => ?_)
 repeat refine evF ?_
 refine aops_end (hK _ (dwK [1, 3, 7, 8] ?_))
 clear hK K
 refine dw_block ?_
 refine dw_loopP (X := Nat) (fun k => k ≤ N.ends.length) (fun k => [(3, .c (.p (.int .i64 (mx0 (eccT N k))))), (8, .c (.p (.int .i64 k)))]) (fun k => []) (fun k => N.ends.length - k) 0 (Nat.zero_le _) (by first | rfl | (simp only [bunK, C.at, C.put, List.dropLast, List.isPrefixOf, Nat.reduceMul, Nat.reduceLT, Nat.reduceLeDiff, Nat.reduceBEq, Nat.reduceEqDiff, reduceCtorEq, Nat.reduceAdd, ↓reduceIte, Int.natCast_zero] <;> rfl)) ?_
 rintro k hk
 intro E hE
 simp only [bunK, C.at, C.put, List.dropLast, List.isPrefixOf, Nat.reduceMul, Nat.reduceLT, Nat.reduceLeDiff, Nat.reduceBEq, Nat.reduceEqDiff, reduceCtorEq, Nat.reduceAdd, ↓reduceIte] at hE
 subst hE
 refine dw_seq (dwR fun K hK => ?_)
 repeat refine evF ?_
 refine aops_end (hK _ (dwK [1, 3, 7, 8, 9] ?_))
 clear hK K
 refine dw_seq (dwI (fun hb => ?_) (fun hb => ?_))
 ·have hkl : k < N.ends.length := by simpa using hb
  have hns := mx0_eccT N k
  have hdl := (dists_is hs hkl).len
  have hec : mx0 (dists N k) = ecc N k := rfl
  refine dw_skip ?_
  show DW _ _ _ _ _
  refine dw_seq (dw_block ?_)
  refine dw_seq (dwR fun K hK => ?_)
  repeat refine evF ?_
  refine aops_end (hK _ (dwK [1, 3, 4, 7, 8] ?_))
  clear hK K
  refine dwR fun K hK => ?_
  repeat refine evF ?_
  refine clF rfl ⟨rfl, _, rfl⟩ (by omega) (by first | exact may61 | exact may75 | exact may123) (meFrom_d ⟨false, f.t1, f.o2, f.t2, false, f.t3, false, f.t4⟩ N k hs hkl (by omega) hdg) ?_
  rintro _ rfl
  repeat refine evF ?_
  refine clF rfl ⟨rfl, _, rfl⟩ (by omega) (by first | exact may61 | exact may75 | exact may123) (meMost_d true 3 (dists N k) (by omega)) ?_
  rintro _ rfl
  repeat refine evF ?_
  have dfx := And.intro dfx (@hec)
  repeat refine evF ?_
  refine clF rfl ⟨rfl, _, rfl⟩ (by omega) (by first | exact may61 | exact may75 | exact may123) (l1Most_m (mx0 (eccT N k)) (ecc N k)) ?_
  rintro _ rfl
  repeat refine evF ?_
  refine aops_end (hK _ (dwK [1, 3, 7, 8] ?_))
  clear hK K
  refine dwR fun K hK => ?_
  repeat refine evF ?_
  have dfk := And.intro @castS @hns
  refine aops_end (hK _ ?_)
  clear hK K
  show ∃ x, _ ∧ _ ∧ Weak _ _
  refine ⟨k + 1, ?_, ?_, weakFk [1, 3, 7, 8]⟩
  ·omega
  ·omega
 ·have hk2 : k = N.ends.length := by
   have : ¬ k < N.ends.length := by simpa using hb
   omega
  refine dw_leave3 ?_
  refine dw_keep [3] (by simp only [bunK, C.at, C.put, List.dropLast, List.isPrefixOf, Nat.reduceMul, Nat.reduceLT, Nat.reduceLeDiff, Nat.reduceBEq, Nat.reduceEqDiff, reduceCtorEq, Nat.reduceAdd, ↓reduceIte]; exact rfl) ?_
  refine dw_seq (dwR fun K hK => ?_)
  repeat refine evF ?_
  refine aops_end (hK _ (dwK [2] ?_))
  clear hK K
  exact dw_ret (fin_ret Tryz.results73 (.one (.plain _ _ rfl)) (by decide) (by rw [hk2]; rfl))
end
section
open Go Go.RowKit
def meTowardSt4 : Nat → Stat
 | 0 => ⟨[1], [], [], [18], [], []⟩
 | 1 => ⟨[2], [], [], [19], [], []⟩
 | 2 => ⟨[18, 19], [], [], [20], [], []⟩
 | 3 => ⟨[20], [], [], [21], [], []⟩
 | 4 => ⟨[21], [], [], [22], [], []⟩
 | 5 => ⟨[22], [], [], [23], [], []⟩
 | 6 => ⟨[1, 23], [], [], [24], [], []⟩
 | 7 => ⟨[8, 23], [], [], [25], [], []⟩
 | 8 => ⟨[24, 25, 23], [], [], [26], [], []⟩
 | 9 => ⟨[26, 23], [], [], [27], [], []⟩
 | 10 => ⟨[1, 23], [], [], [28], [], []⟩
 | 11 => ⟨[2, 23], [], [], [29], [], []⟩
 | 12 => ⟨[28, 29, 23], [], [], [30], [], []⟩
 | 13 => ⟨[30, 23], [], [], [31], [], []⟩
 | 14 => ⟨[31, 23], [], [], [32], [], []⟩
 | 15 => ⟨[27, 32, 23], [], [], [33], [], []⟩
 | 16 => ⟨[23, 33], [], [], [34], [], []⟩
 | _ => ⟨[], [], [], [], [], []⟩
theorem dfxDms3 : type_of% (And.intro tab27 (And.intro tab25 (And.intro tab3 (And.intro tab24 (And.intro tab82 (And.intro @if_pos.{1} (And.intro @rowi (And.intro tab35 (And.intro @getDe (And.intro @getDp (And.intro @getDi (And.intro @toNat0 (And.intro @toNat1 @trivial))))))))))))) := And.intro tab27 (And.intro tab25 (And.intro tab3 (And.intro tab24 (And.intro tab82 (And.intro @if_pos.{1} (And.intro @rowi (And.intro tab35 (And.intro @getDe (And.intro @getDp (And.intro @getDi (And.intro @toNat0 (And.intro @toNat1 @trivial))))))))))))
set_option maxRecDepth 8000 in
set_option maxHeartbeats 0 in
theorem meToward_d (f : NF) (N : Net) (o : Bool) (t : TypeId) (d : List Int) (v : Nat) (hg : goodB N = true) (hv : v < N.ends.length) (hdl : d.length = N.ends.length) (hb1 : -1 ≤ gi d v ∧ gi d v ≤ 1000) : DCalls Tryz.prog 62 [.agg (netC f N), .c (.sl o t 1 (d.map iC)), .c (.p (.int .i64 v))] (fun r => r = [.c (.p (.int .i64 (prt N d v)))]) := by
 obtain ⟨hs, hn, hids, hdg⟩ := good_all hg
 have hdw := hdg v
 have hnl := near_len (N := N) (v := v) (Nat.le_refl (gl N.ends v).length)
 have hvd : v < d.length := by omega
 refine dcalls_of Tryz.func62 rfl (by rw [Tryz.ntmps62]; simp) fun w0 => ?_
 rw [Tryz.ntmps62]
 have dfx := dfxDms3
 simp only [initE, argsL, Arg.av, netC, endss, ints, ends]
 refine dw_seq (dwR fun K hK => ?_)
 repeat refine evF ?_
 refine aops_end (hK _ (dwK [1, 2, 3] ?_))
 clear hK K
 refine dw_seq ?_
 refine dw_seq (dwR fun K hK => ?_)
 repeat refine evF ?_
 refine clF rfl ⟨rfl, _, rfl⟩ (by omega) (by first | exact may120) (neNear_d ⟨false, f.t1, f.o2, f.t2, false, f.t3, false, f.t4⟩ N v hv (by omega)) ?_
 rintro _ rfl
 repeat refine evF ?_
 have dfk := @hnl
 refine aops_end (hK _ (dwKF [1, 2, 11, 12, 13] ?_))
 clear hK K
 refine dw_block ?_
 refine dw_loopP (X := Nat) (fun k => k ≤ (gl N.ends v).length ∧ ∀ j, j < k → (decide (0 < gi d v) && (gi d (nd N v j) == gi d v - 1)) = false) (fun k => [(13, .c (.p (.int .i64 k)))]) (fun k => []) (fun k => (gl N.ends v).length - k) 0 ⟨Nat.zero_le _, fun j hj => by simp at hj⟩ (by first | rfl | (simp only [bunK, C.at, C.put, List.dropLast, List.isPrefixOf, Nat.reduceMul, Nat.reduceLT, Nat.reduceLeDiff, Nat.reduceBEq, Nat.reduceEqDiff, reduceCtorEq, Nat.reduceAdd, ↓reduceIte, Int.natCast_zero] <;> rfl)) ?_
 rintro k ⟨hk, hne⟩
 intro E hE
 simp only [bunK, C.at, C.put, List.dropLast, List.isPrefixOf, Nat.reduceMul, Nat.reduceLT, Nat.reduceLeDiff, Nat.reduceBEq, Nat.reduceEqDiff, reduceCtorEq, Nat.reduceAdd, ↓reduceIte] at hE
 subst hE
 refine dw_seq (dwR fun K hK => ?_)
 repeat refine evF ?_
 refine aops_end (hK _ (dwK [1, 2, 11, 12, 13, 14] ?_))
 clear hK K
 refine dw_seq (dwI (fun hb => ?_) (fun hb => ?_))
 ·have hkl : k < (gl N.ends v).length := by simpa using hb
  obtain ⟨hx, -, -, -, hgp⟩ := sym_nd hs hv hkl
  have hg1 : gi (nearL N v (gl N.ends v).length) k = ((nd N v k : Nat) : Int) := by rw [near_gi hkl, hgp]
  have hin : k < (nearL N v (gl N.ends v).length).length := by omega
  have hxd : nd N v k < d.length := by omega
  refine dw_skip ?_
  show DW _ _ _ _ _
  refine dw_seq (dw_block ?_)
  refine dw_seq (dwR fun K hK => ?_)
  repeat refine evF ?_
  have dfk := @hg1
  refine aops_end (hK _ (dwKF [1, 2, 7, 8, 11, 12, 13] ?_))
  clear hK K
  obtain h0 | h0 := Bool.eq_false_or_eq_true (decide (0 < gi d v))
  ·have dfx := And.intro dfx (@meTowardSt4.eq_def)
   refine dw_seq (dwRD meTowardSt4 (fun j r => True) fun K hK => ?_)
   repeat refine dvF ?_
   have dfx := And.intro dfx (And.intro @meTowardSt4.eq_def @h0)
   repeat refine dvF ?_
   have dfk := @h0
   refine dops_end (hK _ (dwKF [1, 2, 7, 11, 12, 13, 34] ?_))
   clear hK K
   refine dwI (fun hb => ?_) (fun hb => ?_)
   ·have hi : prt N d v = k := by rw [← fstF_prt]; exact fstF_some hkl (by rw [h0, hb]; rfl) hne
    refine dw_seq (dwR fun K hK => ?_)
    repeat refine evF ?_
    refine aops_end (hK _ (dwK [6] ?_))
    clear hK K
    exact dw_ret (fin_ret Tryz.results62 (.one (.plain _ _ rfl)) (by decide) (by rw [hi]))
   ·refine dw_skip ?_
    show DW _ _ _ _ _
    refine dwR fun K hK => ?_
    repeat refine evF ?_
    have dfk := @castS
    refine aops_end (hK _ ?_)
    clear hK K
    show ∃ x, _ ∧ _ ∧ Weak _ _
    refine ⟨k + 1, ?_, ?_, weakFk [1, 2, 11, 12, 13]⟩
    ·refine ⟨hkl, fun j hj => ?_⟩
     rcases Nat.lt_or_ge j k with h | h
     ·exact hne j h
     ·obtain rfl : j = k := by omega
      rw [h0, hb]; rfl
    ·omega
  ·have dfx := And.intro dfx (@meTowardSt4.eq_def)
   refine dw_seq (dwRD meTowardSt4 (fun j r => True) fun K hK => ?_)
   repeat refine dvF ?_
   have dfx := And.intro dfx (And.intro @meTowardSt4.eq_def @h0)
   repeat refine dvF ?_
   have dfk := @h0
   refine dops_end (hK _ (dwKF [1, 2, 7, 11, 12, 13, 34] ?_))
   clear hK K
   refine dwI (fun hb => ?_) (fun hb => ?_)
   ·cases hb
   ·refine dw_skip ?_
    show DW _ _ _ _ _
    refine dwR fun K hK => ?_
    repeat refine evF ?_
    have dfk := @castS
    refine aops_end (hK _ ?_)
    clear hK K
    show ∃ x, _ ∧ _ ∧ Weak _ _
    refine ⟨k + 1, ?_, ?_, weakFk [1, 2, 11, 12, 13]⟩
    ·refine ⟨hkl, fun j hj => ?_⟩
     rcases Nat.lt_or_ge j k with h | h
     ·exact hne j h
     ·obtain rfl : j = k := by omega
      rw [h0]; rfl
    ·omega
 ·have hkl : k = (gl N.ends v).length := by
   have : ¬ (k : Int) < ((gl N.ends v).length : Int) := by simpa using hb
   omega
  subst hkl
  have hi : prt N d v = -1 := by rw [← fstF_prt]; exact fstF_none hne
  refine dw_leave3 ?_
  refine dw_keep [] (by simp only [bunK, C.at, C.put, List.dropLast, List.isPrefixOf, Nat.reduceMul, Nat.reduceLT, Nat.reduceLeDiff, Nat.reduceBEq, Nat.reduceEqDiff, reduceCtorEq, Nat.reduceAdd, ↓reduceIte]; exact rfl) ?_
  refine dw_seq (dwR fun K hK => ?_)
  repeat refine evF ?_
  refine aops_end (hK _ (dwK [6] ?_))
  clear hK K
  exact dw_ret (fin_ret Tryz.results62 (.one (.plain _ _ rfl)) (by decide) (by rw [hi]))
set_option maxRecDepth 8000 in
set_option maxHeartbeats 0 in
theorem meSpan_d (f : NF) (N : Net) (v : Nat) (hg : goodB N = true) (hv : v < N.ends.length) : DCalls Tryz.prog 67 [.agg (netC f N), .c (.p (.int .i64 v))] (fun r => r = [.own false [.sl true 3 1 ((wpar N v).map iC)]]) := by
 obtain ⟨hs, hn, hids, hdg⟩ := good_all hg
 have hdl := (dists_is hs hv).len
 refine dcalls_of Tryz.func67 rfl (by rw [Tryz.ntmps67]; simp) fun w0 => ?_
 rw [Tryz.ntmps67]
 have dfx := dfxDms3
 simp only [initE, argsL, Arg.av, netC, endss, ints, ends]
 refine dw_seq (dwR fun K hK => ?_)
 repeat refine evF ?_
 refine aops_end (hK _ (dwK [1, 2] ?_))
 clear hK K
 refine dw_seq (dwR fun K hK => ?_)
 repeat refine evF ?_
 refine clF rfl ⟨rfl, _, rfl⟩ (by omega) (by first | exact may61) (meFrom_d ⟨false, f.t1, f.o2, f.t2, false, f.t3, false, f.t4⟩ N v hs hv (by omega) hdg) ?_
 rintro _ rfl
 repeat refine evF ?_
 refine aops_end (hK _ (dwK [2, 5] ?_))
 clear hK K
 refine dw_seq (dwR fun K hK => ?_)
 repeat refine evF ?_
 refine aops_end (hK _ (dwK [2, 5, 6] ?_))
 clear hK K
 refine dw_seq ?_
 refine dw_seq (dwR fun K hK => ?_)
 repeat refine evF ?_
 refine aops_end (hK _ (dwK [2, 5, 6, 13, 14] ?_))
 clear hK K
 refine dw_block ?_
 refine dw_nil 6 3 1 (by decide) (by simp only [bunK, C.at, C.put, List.dropLast, List.isPrefixOf, Nat.reduceMul, Nat.reduceLT, Nat.reduceLeDiff, Nat.reduceBEq, Nat.reduceEqDiff, reduceCtorEq, Nat.reduceAdd, ↓reduceIte]) [2, 5, 6, 13, 14] (by simp only [bunK, C.at, C.put, List.dropLast, List.isPrefixOf, Nat.reduceMul, Nat.reduceLT, Nat.reduceLeDiff, Nat.reduceBEq, Nat.reduceEqDiff, reduceCtorEq, Nat.reduceAdd, ↓reduceIte]; exact rfl) ?_
 refine dw_loopP (X := Nat) (fun k => k ≤ N.ends.length) (fun k => [(14, .c (.p (.int .i64 k)))]) (fun k => [((6, 0), ⟨none, [.sl true 3 1 ((prtT N (dists N v) k).map iC)]⟩)]) (fun k => N.ends.length - k) 0 (Nat.zero_le _) (by first | rfl | (simp only [bunK, C.at, C.put, List.dropLast, List.isPrefixOf, Nat.reduceMul, Nat.reduceLT, Nat.reduceLeDiff, Nat.reduceBEq, Nat.reduceEqDiff, reduceCtorEq, Nat.reduceAdd, ↓reduceIte, Int.natCast_zero] <;> rfl)) ?_
 rintro k hk
 intro E hE
 simp only [bunK, C.at, C.put, List.dropLast, List.isPrefixOf, Nat.reduceMul, Nat.reduceLT, Nat.reduceLeDiff, Nat.reduceBEq, Nat.reduceEqDiff, reduceCtorEq, Nat.reduceAdd, ↓reduceIte] at hE
 subst hE
 refine dw_seq (dwR fun K hK => ?_)
 repeat refine evF ?_
 refine aops_end (hK _ (dwK [2, 5, 6, 13, 14, 15] ?_))
 clear hK K
 refine dw_seq (dwI (fun hb => ?_) (fun hb => ?_))
 ·have hkl : k < N.ends.length := by simpa using hb
  have hns := prtT_succ N (dists N v) k
  have hpl := prtT_len N (dists N v) k
  refine dw_skip ?_
  show DW _ _ _ _ _
  refine dw_seq (dw_block ?_)
  refine dw_seq (dwR fun K hK => ?_)
  repeat refine evF ?_
  refine aops_end (hK _ (dwK [2, 5, 6, 7, 13, 14] ?_))
  clear hK K
  refine dwR fun K hK => ?_
  repeat refine evF ?_
  refine clF rfl ⟨rfl, _, rfl⟩ (by omega) (by first | exact may62) (meToward_d ⟨false, f.t1, f.o2, f.t2, false, f.t3, false, f.t4⟩ N true 3 (dists N v) k hg hkl hdl (dist_in hs hn.2 hv hkl)) ?_
  rintro _ rfl
  repeat refine evF ?_
  have dfk := @snoc_iC
  refine aops_end (hK _ (dwKF [2, 5, 6, 13, 14] ?_))
  clear hK K
  refine dwR fun K hK => ?_
  repeat refine evF ?_
  have dfk := And.intro @castS @hns
  refine aops_end (hK _ ?_)
  clear hK K
  show ∃ x, _ ∧ _ ∧ Weak _ _
  refine ⟨k + 1, ?_, ?_, weakFk [2, 5, 6, 13, 14]⟩
  ·omega
  ·omega
 ·have hk2 : k = N.ends.length := by
   have : ¬ k < N.ends.length := by simpa using hb
   omega
  refine dw_leave3 ?_
  refine dw_keep [6] (by simp only [bunK, C.at, C.put, List.dropLast, List.isPrefixOf, Nat.reduceMul, Nat.reduceLT, Nat.reduceLeDiff, Nat.reduceBEq, Nat.reduceEqDiff, reduceCtorEq, Nat.reduceAdd, ↓reduceIte]; exact rfl) ?_
  refine dw_seq (dwR fun K hK => ?_)
  repeat refine evF ?_
  refine aops_end (hK _ (dwK [4] ?_))
  clear hK K
  exact dw_ret (fin_ret Tryz.results67 (.one (.own _ _ _ _ rfl rfl (own1 (owned_ints _ _)))) (by decide) (by rw [hk2]; rfl))
set_option maxRecDepth 8000 in
set_option maxHeartbeats 0 in
theorem specSpanningTree_d (f : NF) (N : Net) (v : Nat) (hg : goodB N = true) (hv : v < N.ends.length) : DCalls Tryz.prog 19 [.agg (netC f N), .c (.p (.int .i64 v))] (fun r => r = [.own false [.sl true 3 1 ((wpar N v).map iC)], .c (.p (.bool true))]) := by
 have hno := nodeB_of hg hv
 refine dcalls_of Tryz.func19 rfl (by rw [Tryz.ntmps19]; simp) fun w0 => ?_
 rw [Tryz.ntmps19]
 have dfx := dfxDms3
 simp only [initE, argsL, Arg.av, netC, endss, ints, ends]
 refine dw_seq (dwR fun K hK => ?_)
 repeat refine evF ?_
 refine aops_end (hK _ (dwK [1, 2] ?_))
 clear hK K
 refine dw_seq ?_
 refine dw_seq (dwR fun K hK => ?_)
 repeat refine evF ?_
 refine clF rfl ⟨rfl, _, rfl⟩ (by omega) (by first | exact may60) (neNode_d ⟨false, f.t1, f.o2, f.t2, false, f.t3, false, f.t4⟩ N v) ?_
 rintro _ rfl
 repeat refine evF ?_
 have dfk := @hno
 refine aops_end (hK _ (dwKF [1, 2, 9] ?_))
 clear hK K
 refine dwI (fun hb => ?_) (fun hb => ?_)
 ·cases hb
 ·refine dw_skip ?_
  show DW _ _ _ _ _
  refine dw_seq (dwR fun K hK => ?_)
  repeat refine evF ?_
  refine clF rfl ⟨rfl, _, rfl⟩ (by omega) (by first | exact may67) (meSpan_d ⟨false, f.t1, f.o2, f.t2, false, f.t3, false, f.t4⟩ N v hg hv) ?_
  rintro _ rfl
  repeat refine evF ?_
  refine aops_end (hK _ (dwK [4, 5] ?_))
  clear hK K
  exact dw_ret (fin_ret Tryz.results19 (.two (.own _ _ _ _ rfl rfl (own1 (owned_ints _ _))) (.plain _ _ rfl)) (by decide) rfl)
end
section
open Go Go.RowKit
theorem dfxDms4 : type_of% (And.intro tab27 (And.intro tab25 (And.intro tab3 (And.intro tab24 (And.intro tab82 (And.intro @if_pos.{1} (And.intro @rowi (And.intro tab35 (And.intro @getDe (And.intro @getDp (And.intro @getDi (And.intro @toNat0 (And.intro @toNat1 @trivial))))))))))))) := And.intro tab27 (And.intro tab25 (And.intro tab3 (And.intro tab24 (And.intro tab82 (And.intro @if_pos.{1} (And.intro @rowi (And.intro tab35 (And.intro @getDe (And.intro @getDp (And.intro @getDi (And.intro @toNat0 (And.intro @toNat1 @trivial))))))))))))
set_option maxRecDepth 8000 in
set_option maxHeartbeats 0 in
theorem specPath_yes (f : NF) (N : Net) (v w k : Nat) (hg : goodB N = true) (hv : v < N.ends.length) (hw : w < N.ends.length) (hk : gi (dists N w) v = k) : DCalls Tryz.prog 9 [.agg (netC f N), .c (.p (.int .i64 v)), .c (.p (.int .i64 w))] (fun rr => rr = [.own false [.sl true 3 1 ((pth N (dists N w) k v).map iC)], .c (.p (.bool true))]) := by
 obtain ⟨hs, hn, hids, hdg⟩ := good_all hg
 have hno := nodeB_of hg hv
 have hno2 := nodeB_of hg hw
 have hdl := (dists_is hs hw).len
 have hvd : v < (dists N w).length := by omega
 refine dcalls_of Tryz.func9 rfl (by rw [Tryz.ntmps9]; simp) fun w0 => ?_
 rw [Tryz.ntmps9]
 have dfx := dfxDms4
 simp only [initE, argsL, Arg.av, netC, endss, ints, ends]
 refine dw_seq (dwR fun K hK => ?_)
 repeat refine evF ?_
 refine aops_end (hK _ (dwK [1, 2, 3] ?_))
 clear hK K
 refine dw_seq ?_
 refine dw_seq (dwR fun K hK => ?_)
 repeat refine evF ?_
 refine clF rfl ⟨rfl, _, rfl⟩ (by omega) (by first | exact may60) (neNode_d ⟨false, f.t1, f.o2, f.t2, false, f.t3, false, f.t4⟩ N v) ?_
 rintro _ rfl
 repeat refine evF ?_
 have dfx := And.intro dfx (@hno)
 repeat refine evF ?_
 refine cgF rfl rfl ⟨rfl, _, rfl⟩ (by omega) (by first | exact may60) (neNode_d ⟨false, f.t1, f.o2, f.t2, false, f.t3, false, f.t4⟩ N w) ?_
 rintro _ rfl
 repeat refine evF ?_
 have dfx := And.intro dfx (@hno2)
 repeat refine evF ?_
 have dfk := And.intro @hno @hno2
 refine aops_end (hK _ (dwKF [1, 2, 3, 20] ?_))
 clear hK K
 refine dwI (fun hb => ?_) (fun hb => ?_)
 ·cases hb
 ·refine dw_skip ?_
  show DW _ _ _ _ _
  refine dw_seq (dwR fun K hK => ?_)
  repeat refine evF ?_
  refine clF rfl ⟨rfl, _, rfl⟩ (by omega) (by first | exact may61) (meFrom_d ⟨false, f.t1, f.o2, f.t2, false, f.t3, false, f.t4⟩ N w hs hw (by omega) hdg) ?_
  rintro _ rfl
  repeat refine evF ?_
  refine aops_end (hK _ (dwK [1, 2, 3, 8] ?_))
  clear hK K
  refine dw_seq ?_
  refine dw_seq (dwR fun K hK => ?_)
  repeat refine evF ?_
  refine aops_end (hK _ (dwK [1, 2, 3, 8, 28] ?_))
  clear hK K
  refine dwI (fun hb => ?_) (fun hb => ?_)
  ·have : gi (dists N w) v < 0 := by simpa using hb
   omega
  ·clear hb
   refine dw_skip ?_
   show DW _ _ _ _ _
   refine dw_seq (dwR fun K hK => ?_)
   repeat refine evF ?_
   refine aops_end (hK _ (dwK [1, 2, 3, 8, 9] ?_))
   clear hK K
   refine dw_seq (dw_block ?_)
   refine dw_nil 9 3 1 (by decide) (by simp only [bunK, C.at, C.put, List.dropLast, List.isPrefixOf, Nat.reduceMul, Nat.reduceLT, Nat.reduceLeDiff, Nat.reduceBEq, Nat.reduceEqDiff, reduceCtorEq, Nat.reduceAdd, ↓reduceIte]) [1, 2, 3, 8, 9] (by simp only [bunK, C.at, C.put, List.dropLast, List.isPrefixOf, Nat.reduceMul, Nat.reduceLT, Nat.reduceLeDiff, Nat.reduceBEq, Nat.reduceEqDiff, reduceCtorEq, Nat.reduceAdd, ↓reduceIte]; exact rfl) ?_
   refine dw_loopP (X := Nat) (fun i => i ≤ k) (fun i => [(1, .c (.p (.int .i64 (wayN N (dists N w) v i))))]) (fun i => [((9, 0), ⟨none, [.sl true 3 1 ((pth N (dists N w) i v).map iC)]⟩)]) (fun i => k - i) 0 (Nat.zero_le _) (by first | rfl | (simp only [bunK, C.at, C.put, List.dropLast, List.isPrefixOf, Nat.reduceMul, Nat.reduceLT, Nat.reduceLeDiff, Nat.reduceBEq, Nat.reduceEqDiff, reduceCtorEq, Nat.reduceAdd, ↓reduceIte, Int.natCast_zero] <;> rfl)) ?_
   rintro i hi
   intro E hE
   simp only [bunK, C.at, C.put, List.dropLast, List.isPrefixOf, Nat.reduceMul, Nat.reduceLT, Nat.reduceLeDiff, Nat.reduceBEq, Nat.reduceEqDiff, reduceCtorEq, Nat.reduceAdd, ↓reduceIte] at hE
   subst hE
   obtain ⟨hwl, hwd⟩ := wayN_dist hs (dists_is hs hw) hv (by omega) i (by omega)
   refine dw_seq ?_
   refine dw_seq (dwR fun K hK => ?_)
   repeat refine evF ?_
   refine aops_end (hK _ (dwK [1, 2, 3, 8, 9, 31] ?_))
   clear hK K
   refine dwI (fun hb => ?_) (fun hb => ?_)
   ·have hne : wayN N (dists N w) v i ≠ w := by
     intro e
     have : ¬ ((wayN N (dists N w) v i : Nat) : Int) = w := by simpa using hb
     omega
    have hik : i < k := by
     rcases Nat.lt_or_ge i k with h | h
     ·exact h
     ·exact absurd (by rw [show i = k by omega]; exact wayN_end hs (dists_is hs hw) hv hk) hne
    obtain ⟨j, hj1, hj2, hj3, hj4⟩ := prt_step (dists_is hs hw) hwl (by omega)
    have hgp : (gp (gl N.ends (wayN N (dists N w) v i)) j).1 = ((nd N (wayN N (dists N w) v i) j : Nat) : Int) := by rw [(sym_nd hs hwl hj2).2.2.2.2]
    have hwn : wayN N (dists N w) v (i + 1) = nd N (wayN N (dists N w) v i) j := by rw [wayN, hj1, Int.toNat_natCast]
    have hns : pth N (dists N w) (i + 1) v = pth N (dists N w) i v ++ [(j : Int)] := by rw [pth_take, hj1]
    have hpl := pth_len (N := N) (dists N w) i v
    have hkn : k < N.ends.length := by have := dist_lt hs hw hv; omega
    refine dw_skip ?_
    show DW _ _ _ _ _
    refine dw_block ?_
    refine dw_seq (dwR fun K hK => ?_)
    repeat refine evF ?_
    refine clF rfl ⟨rfl, _, rfl⟩ (by omega) (by first | exact may62) (meToward_d ⟨false, f.t1, f.o2, f.t2, false, f.t3, false, f.t4⟩ N true 3 (dists N w) (wayN N (dists N w) v i) hg hwl hdl (dist_in hs hn.2 hw hwl)) ?_
    rintro _ rfl
    repeat refine evF ?_
    have dfx := And.intro dfx (@hj1)
    repeat refine evF ?_
    have dfk := @hj1
    refine aops_end (hK _ (dwKF [1, 2, 3, 8, 9, 10] ?_))
    clear hK K
    refine dw_seq (dwR fun K hK => ?_)
    repeat refine evF ?_
    have dfk := @snoc_iC
    refine aops_end (hK _ (dwKF [1, 2, 3, 8, 9, 10] ?_))
    clear hK K
    have dfx := And.intro dfx (And.intro @Int.toNat_natCast @hgp)
    refine dwR fun K hK => ?_
    repeat refine evF ?_
    have dfk := And.intro @hns @hwn
    refine aops_end (hK _ ?_)
    clear hK K
    show ∃ x, _ ∧ _ ∧ Weak _ _
    refine ⟨i + 1, ?_, ?_, weakFk [1, 2, 3, 8, 9]⟩
    ·omega
    ·omega
   ·have hie : i = k := by
     have : ((wayN N (dists N w) v i : Nat) : Int) = w := by simpa using hb
     have e : wayN N (dists N w) v i = w := by omega
     rw [e, (dists_is hs hw).root] at hwd
     omega
    refine dw_leave3 ?_
    refine dw_keep [9] (by simp only [bunK, C.at, C.put, List.dropLast, List.isPrefixOf, Nat.reduceMul, Nat.reduceLT, Nat.reduceLeDiff, Nat.reduceBEq, Nat.reduceEqDiff, reduceCtorEq, Nat.reduceAdd, ↓reduceIte]; exact rfl) ?_
    refine dw_seq (dwR fun K hK => ?_)
    repeat refine evF ?_
    refine aops_end (hK _ (dwK [6, 7] ?_))
    clear hK K
    exact dw_ret (fin_ret Tryz.results9 (.two (.own _ _ _ _ rfl rfl (own1 (owned_ints _ _))) (.plain _ _ rfl)) (by decide) (by rw [hie]))
set_option maxRecDepth 8000 in
set_option maxHeartbeats 0 in
theorem specPath_neg (f : NF) (N : Net) (v w : Nat) (hg : goodB N = true) (hv : v < N.ends.length) (hw : w < N.ends.length) (hk : gi (dists N w) v < 0) : DCalls Tryz.prog 9 [.agg (netC f N), .c (.p (.int .i64 v)), .c (.p (.int .i64 w))] (fun rr => rr = [.own false [.sl true 3 1 (([] : List Int).map iC)], .c (.p (.bool false))]) := by
 obtain ⟨hs, hn, hids, hdg⟩ := good_all hg
 have hno := nodeB_of hg hv
 have hno2 := nodeB_of hg hw
 have hdl := (dists_is hs hw).len
 have hvd : v < (dists N w).length := by omega
 refine dcalls_of Tryz.func9 rfl (by rw [Tryz.ntmps9]; simp) fun w0 => ?_
 rw [Tryz.ntmps9]
 have dfx := dfxDms4
 simp only [initE, argsL, Arg.av, netC, endss, ints, ends]
 refine dw_seq (dwR fun K hK => ?_)
 repeat refine evF ?_
 refine aops_end (hK _ (dwK [1, 2, 3] ?_))
 clear hK K
 refine dw_seq ?_
 refine dw_seq (dwR fun K hK => ?_)
 repeat refine evF ?_
 refine clF rfl ⟨rfl, _, rfl⟩ (by omega) (by first | exact may60) (neNode_d ⟨false, f.t1, f.o2, f.t2, false, f.t3, false, f.t4⟩ N v) ?_
 rintro _ rfl
 repeat refine evF ?_
 have dfx := And.intro dfx (@hno)
 repeat refine evF ?_
 refine cgF rfl rfl ⟨rfl, _, rfl⟩ (by omega) (by first | exact may60) (neNode_d ⟨false, f.t1, f.o2, f.t2, false, f.t3, false, f.t4⟩ N w) ?_
 rintro _ rfl
 repeat refine evF ?_
 have dfx := And.intro dfx (@hno2)
 repeat refine evF ?_
 have dfk := And.intro @hno @hno2
 refine aops_end (hK _ (dwKF [1, 2, 3, 20] ?_))
 clear hK K
 refine dwI (fun hb => ?_) (fun hb => ?_)
 ·cases hb
 ·refine dw_skip ?_
  show DW _ _ _ _ _
  refine dw_seq (dwR fun K hK => ?_)
  repeat refine evF ?_
  refine clF rfl ⟨rfl, _, rfl⟩ (by omega) (by first | exact may61) (meFrom_d ⟨false, f.t1, f.o2, f.t2, false, f.t3, false, f.t4⟩ N w hs hw (by omega) hdg) ?_
  rintro _ rfl
  repeat refine evF ?_
  refine aops_end (hK _ (dwK [1, 2, 3, 8] ?_))
  clear hK K
  refine dw_seq ?_
  refine dw_seq (dwR fun K hK => ?_)
  repeat refine evF ?_
  refine aops_end (hK _ (dwK [1, 2, 3, 8, 28] ?_))
  clear hK K
  refine dwI (fun hb => ?_) (fun hb => ?_)
  ·refine dw_seq (dwR fun K hK => ?_)
   repeat refine evF ?_
   refine aops_end (hK _ (dwK [6, 7] ?_))
   clear hK K
   refine dw_nil 6 3 1 (by decide) (by simp only [bunK, C.at, C.put, List.dropLast, List.isPrefixOf, Nat.reduceMul, Nat.reduceLT, Nat.reduceLeDiff, Nat.reduceBEq, Nat.reduceEqDiff, reduceCtorEq, Nat.reduceAdd, ↓reduceIte]) [6, 7] (by simp only [bunK, C.at, C.put, List.dropLast, List.isPrefixOf, Nat.reduceMul, Nat.reduceLT, Nat.reduceLeDiff, Nat.reduceBEq, Nat.reduceEqDiff, reduceCtorEq, Nat.reduceAdd, ↓reduceIte]; exact rfl) ?_
   exact dw_ret (fin_ret Tryz.results9 (.two (.own _ _ _ _ rfl rfl (own1 (owned_ints _ []))) (.plain _ _ rfl)) (by decide) rfl)
  ·have : ¬ gi (dists N w) v < 0 := by simpa using hb
   omega
set_option maxRecDepth 8000 in
set_option maxHeartbeats 0 in
theorem specPath_no (f : NF) (N : Net) (x y : Int) (h : (nodeB N x && nodeB N y) = false) : DCalls Tryz.prog 9 [.agg (netC f N), .c (.p (.int .i64 x)), .c (.p (.int .i64 y))] (fun rr => rr = [.own false [.sl true 3 1 (([] : List Int).map iC)], .c (.p (.bool false))]) := by
 refine dcalls_of Tryz.func9 rfl (by rw [Tryz.ntmps9]; simp) fun w0 => ?_
 rw [Tryz.ntmps9]
 have dfx := dfxDms4
 simp only [initE, argsL, Arg.av, netC, endss, ints, ends]
 refine dw_seq (dwR fun K hK => ?_)
 repeat refine evF ?_
 refine aops_end (hK _ (dwK [1, 2, 3] ?_))
 clear hK K
 refine dw_seq ?_
 refine dw_seq (dwR fun K hK => ?_)
 repeat refine evF ?_
 refine clF rfl ⟨rfl, _, rfl⟩ (by omega) (by first | exact may60) (neNode_d ⟨false, f.t1, f.o2, f.t2, false, f.t3, false, f.t4⟩ N x) ?_
 rintro _ rfl
 repeat refine evF ?_
 obtain h1 | h1 := Bool.eq_false_or_eq_true (nodeB N x)
 ·have h2 : nodeB N y = false := by
   rw [h1] at h
   simpa using h
  have dfx := And.intro dfx (@h1)
  repeat refine evF ?_
  refine cgF rfl rfl ⟨rfl, _, rfl⟩ (by omega) (by first | exact may60) (neNode_d ⟨false, f.t1, f.o2, f.t2, false, f.t3, false, f.t4⟩ N y) ?_
  rintro _ rfl
  repeat refine evF ?_
  have dfx := And.intro dfx (@h2)
  repeat refine evF ?_
  have dfk := And.intro @h1 @h2
  refine aops_end (hK _ (dwKF [20] ?_))
  clear hK K
  refine dwI (fun hb => ?_) (fun hb => ?_)
  ·refine dw_seq (dwR fun K hK => ?_)
   repeat refine evF ?_
   refine aops_end (hK _ (dwK [6, 7] ?_))
   clear hK K
   refine dw_nil 6 3 1 (by decide) (by simp only [bunK, C.at, C.put, List.dropLast, List.isPrefixOf, Nat.reduceMul, Nat.reduceLT, Nat.reduceLeDiff, Nat.reduceBEq, Nat.reduceEqDiff, reduceCtorEq, Nat.reduceAdd, ↓reduceIte]) [6, 7] (by simp only [bunK, C.at, C.put, List.dropLast, List.isPrefixOf, Nat.reduceMul, Nat.reduceLT, Nat.reduceLeDiff, Nat.reduceBEq, Nat.reduceEqDiff, reduceCtorEq, Nat.reduceAdd, ↓reduceIte]; exact rfl) ?_
   exact dw_ret (fin_ret Tryz.results9 (.two (.own _ _ _ _ rfl rfl (own1 (owned_ints _ []))) (.plain _ _ rfl)) (by decide) rfl)
  ·cases hb
 ·have dfx := And.intro dfx (@h1)
  repeat refine evF ?_
  have dfx := And.intro dfx (@h1)
  refine csF ?_
  repeat refine evF ?_
  have dfx := And.intro dfx (@h1)
  repeat refine evF ?_
  have dfk := @h1
  refine aops_end (hK _ (dwKF [20] ?_))
  clear hK K
  refine dwI (fun hb => ?_) (fun hb => ?_)
  ·refine dw_seq (dwR fun K hK => ?_)
   repeat refine evF ?_
   refine aops_end (hK _ (dwK [6, 7] ?_))
   clear hK K
   refine dw_nil 6 3 1 (by decide) (by simp only [bunK, C.at, C.put, List.dropLast, List.isPrefixOf, Nat.reduceMul, Nat.reduceLT, Nat.reduceLeDiff, Nat.reduceBEq, Nat.reduceEqDiff, reduceCtorEq, Nat.reduceAdd, ↓reduceIte]) [6, 7] (by simp only [bunK, C.at, C.put, List.dropLast, List.isPrefixOf, Nat.reduceMul, Nat.reduceLT, Nat.reduceLeDiff, Nat.reduceBEq, Nat.reduceEqDiff, reduceCtorEq, Nat.reduceAdd, ↓reduceIte]; exact rfl) ?_
   exact dw_ret (fin_ret Tryz.results9 (.two (.own _ _ _ _ rfl rfl (own1 (owned_ints _ []))) (.plain _ _ rfl)) (by decide) rfl)
  ·cases hb
theorem specPath_d (f : NF) (N : Net) (x y : Int) {p : List Int} {ok : Bool} (h : PathRs N x y p ok) : DCalls Tryz.prog 9 [.agg (netC f N), .c (.p (.int .i64 x)), .c (.p (.int .i64 y))] (fun rr => rr = [.own false [.sl true 3 1 (p.map iC)], .c (.p (.bool ok))]) := by
 rcases h with ⟨v, w, k, rfl, rfl, hv, hw, hg, hk, rfl, rfl⟩ | ⟨v, w, rfl, rfl, hv, hw, hg, hk, rfl, rfl⟩ | ⟨h, rfl, rfl⟩
 ·exact specPath_yes f N v w k hg hv hw hk
 ·exact specPath_neg f N v w hg hv hw hk
 ·exact specPath_no f N x y h
set_option maxRecDepth 8000 in
set_option maxHeartbeats 0 in
theorem specDiameterOf_d (f : NF) (N : Net) : DCalls Tryz.prog 22 [.agg (netC f N)] (fun r => r = [.c (.p (.int .i64 (if conB N = true then mx0 (eccs N) else 0))), .c (.p (.bool (conB N)))]) := by
 refine dcalls_of Tryz.func22 rfl (by rw [Tryz.ntmps22]; simp) fun w0 => ?_
 rw [Tryz.ntmps22]
 have dfx := dfxDms4
 simp only [initE, argsL, Arg.av, netC, endss, ints, ends]
 refine dw_seq (dwR fun K hK => ?_)
 repeat refine evF ?_
 refine aops_end (hK _ (dwK [1] ?_))
 clear hK K
 refine dw_seq ?_
 refine dw_seq (dwR fun K hK => ?_)
 repeat refine evF ?_
 refine clF rfl ⟨rfl, _, rfl⟩ (by omega) (by first | exact may71 | exact may72) (neGood_d ⟨false, f.t1, f.o2, f.t2, false, f.t3, false, f.t4⟩ N) ?_
 rintro _ rfl
 repeat refine evF ?_
 obtain hg | hg := Bool.eq_false_or_eq_true (goodB N)
 ·have dfx := And.intro dfx (@hg)
  repeat refine evF ?_
  refine cgF rfl rfl ⟨rfl, _, rfl⟩ (by omega) (by first | exact may71 | exact may72) (meConnected_d ⟨false, f.t1, f.o2, f.t2, false, f.t3, false, f.t4⟩ N hg) ?_
  rintro _ rfl
  repeat refine evF ?_
  obtain hc | hc := Bool.eq_false_or_eq_true (connB N 0)
  ·have hk : conB N = true := by rw [conB, hg, hc]; rfl
   have dfx := And.intro dfx (@hc)
   repeat refine evF ?_
   have dfk := And.intro @hg @hc
   refine aops_end (hK _ (dwKF [1, 11] ?_))
   clear hK K
   refine dwI (fun hb => ?_) (fun hb => ?_)
   ·cases hb
   ·refine dw_skip ?_
    show DW _ _ _ _ _
    refine dw_seq (dwR fun K hK => ?_)
    repeat refine evF ?_
    refine clF rfl ⟨rfl, _, rfl⟩ (by omega) (by first | exact may73) (meDiameter_d ⟨false, f.t1, f.o2, f.t2, false, f.t3, false, f.t4⟩ N hg) ?_
    rintro _ rfl
    repeat refine evF ?_
    refine aops_end (hK _ (dwK [2, 3] ?_))
    clear hK K
    exact dw_ret (fin_ret Tryz.results22 (.two (.plain _ _ rfl) (.plain _ _ rfl)) (by decide) (by rw [hk, if_pos rfl]))
  ·have hk : conB N = false := by rw [conB, hg, hc]; rfl
   have dfx := And.intro dfx (@hc)
   repeat refine evF ?_
   have dfk := And.intro @hg @hc
   refine aops_end (hK _ (dwKF [11] ?_))
   clear hK K
   refine dwI (fun hb => ?_) (fun hb => ?_)
   ·refine dw_seq (dwR fun K hK => ?_)
    repeat refine evF ?_
    refine aops_end (hK _ (dwK [2, 3] ?_))
    clear hK K
    exact dw_ret (fin_ret Tryz.results22 (.two (.plain _ _ rfl) (.plain _ _ rfl)) (by decide) (by rw [hk]; rfl))
   ·cases hb
 ·have hk : conB N = false := by rw [conB, hg]; rfl
  have dfx := And.intro dfx (@hg)
  repeat refine evF ?_
  have dfx := And.intro dfx (@hg)
  refine csF ?_
  repeat refine evF ?_
  have dfx := And.intro dfx (@hg)
  repeat refine evF ?_
  have dfk := @hg
  refine aops_end (hK _ (dwKF [11] ?_))
  clear hK K
  refine dwI (fun hb => ?_) (fun hb => ?_)
  ·refine dw_seq (dwR fun K hK => ?_)
   repeat refine evF ?_
   refine aops_end (hK _ (dwK [2, 3] ?_))
   clear hK K
   exact dw_ret (fin_ret Tryz.results22 (.two (.plain _ _ rfl) (.plain _ _ rfl)) (by decide) (by rw [hk]; rfl))
  ·cases hb
def DistRs (N : Net) (x : Int) (d : List Int) (ok : Bool) : Prop := (∃ v : Nat, x = v ∧ v < N.ends.length ∧ goodB N = true ∧ d = dists N v ∧ ok = true) ∨ (nodeB N x = false ∧ d = [] ∧ ok = false)
theorem distRs_ex (N : Net) (x : Int) : ∃ d ok, DistRs N x d ok := by
 cases h : nodeB N x with
 | true => obtain ⟨v, h1, h2, h3⟩ := nodeB_at h; exact ⟨_, _, .inl ⟨v, h1, h2, h3, rfl, rfl⟩⟩
 | false => exact ⟨_, _, .inr ⟨h, rfl, rfl⟩⟩
set_option maxRecDepth 8000 in
set_option maxHeartbeats 0 in
theorem specDist_d (f : NF) (N : Net) (x : Int) {d : List Int} {ok : Bool} (h : DistRs N x d ok) : DCalls Tryz.prog 11 [.agg (netC f N), .c (.p (.int .i64 x))] (fun r => r = [.own false [.sl true 3 1 (d.map iC)], .c (.p (.bool ok))]) := by
 refine dcalls_of Tryz.func11 rfl (by rw [Tryz.ntmps11]; simp) fun w0 => ?_
 rw [Tryz.ntmps11]
 have dfx := dfxDms4
 simp only [initE, argsL, Arg.av, netC, endss, ints, ends]
 refine dw_seq (dwR fun K hK => ?_)
 repeat refine evF ?_
 refine aops_end (hK _ (dwK [1, 2] ?_))
 clear hK K
 refine dw_seq ?_
 refine dw_seq (dwR fun K hK => ?_)
 repeat refine evF ?_
 refine clF rfl ⟨rfl, _, rfl⟩ (by omega) (by first | exact may60) (neNode_d ⟨false, f.t1, f.o2, f.t2, false, f.t3, false, f.t4⟩ N x) ?_
 rintro _ rfl
 repeat refine evF ?_
 rcases h with ⟨v, rfl, hv, hg, rfl, rfl⟩ | ⟨hno, rfl, rfl⟩
 ·obtain ⟨hs, hn, hids, hdg⟩ := good_all hg
  have hno := nodeB_of hg hv
  have dfx := And.intro dfx (@hno)
  repeat refine evF ?_
  have dfk := @hno
  refine aops_end (hK _ (dwKF [1, 2, 9] ?_))
  clear hK K
  refine dwI (fun hb => ?_) (fun hb => ?_)
  ·cases hb
  ·refine dw_skip ?_
   show DW _ _ _ _ _
   refine dw_seq (dwR fun K hK => ?_)
   repeat refine evF ?_
   refine clF rfl ⟨rfl, _, rfl⟩ (by omega) (by first | exact may61) (meFrom_d ⟨false, f.t1, f.o2, f.t2, false, f.t3, false, f.t4⟩ N v hs hv (by omega) hdg) ?_
   rintro _ rfl
   repeat refine evF ?_
   refine aops_end (hK _ (dwK [4, 5] ?_))
   clear hK K
   exact dw_ret (fin_ret Tryz.results11 (.two (.own _ _ _ _ rfl rfl (own1 (owned_ints _ _))) (.plain _ _ rfl)) (by decide) rfl)
 ·have dfx := And.intro dfx (@hno)
  repeat refine evF ?_
  have dfk := @hno
  refine aops_end (hK _ (dwKF [9] ?_))
  clear hK K
  refine dwI (fun hb => ?_) (fun hb => ?_)
  ·refine dw_seq (dwR fun K hK => ?_)
   repeat refine evF ?_
   refine aops_end (hK _ (dwK [4, 5] ?_))
   clear hK K
   refine dw_nil 4 3 1 (by decide) (by simp only [bunK, C.at, C.put, List.dropLast, List.isPrefixOf, Nat.reduceMul, Nat.reduceLT, Nat.reduceLeDiff, Nat.reduceBEq, Nat.reduceEqDiff, reduceCtorEq, Nat.reduceAdd, ↓reduceIte]) [4, 5] (by simp only [bunK, C.at, C.put, List.dropLast, List.isPrefixOf, Nat.reduceMul, Nat.reduceLT, Nat.reduceLeDiff, Nat.reduceBEq, Nat.reduceEqDiff, reduceCtorEq, Nat.reduceAdd, ↓reduceIte]; exact rfl) ?_
   exact dw_ret (fin_ret Tryz.results11 (.two (.own _ _ _ _ rfl rfl (own1 (owned_ints _ []))) (.plain _ _ rfl)) (by decide) rfl)
  ·cases hb
set_option maxRecDepth 8000 in
set_option maxHeartbeats 0 in
theorem implDist_d (f : NF) (N : Net) (x : Int) (hi : N.ids.length ≤ 2097152) (hl : N.ends.length ≤ 2097152) {d : List Int} {ok : Bool} (h : DistRs N x d ok) : DCalls Tryz.prog 10 [.agg (netC f N), .c (.p (.int .i64 x))] (fun r => r = [.own false [.sl true 3 1 (d.map iC)], .c (.p (.bool ok))]) := by
 rcases h with ⟨v, rfl, hv, hg, rfl, rfl⟩ | ⟨hno, rfl, rfl⟩
 ·exact DistancesFrom_d f N v hg hv
 refine dcalls_of Tryz.func10 rfl (by rw [Tryz.ntmps10]; simp) fun w0 => ?_
 rw [Tryz.ntmps10]
 have dfx := dfxDms4
 simp only [initE, argsL, Arg.av, netC, endss, ints, ends]
 refine dw_seq (dwR fun K hK => ?_)
 repeat refine evF ?_
 refine aops_end (hK _ (dwK [1, 2] ?_))
 clear hK K
 refine dw_seq ?_
 refine dw_seq (dwR fun K hK => ?_)
 repeat refine evF ?_
 refine clF rfl ⟨rfl, _, rfl⟩ (by omega) (by first | exact may55 | exact may56) (IsNetwork_d ⟨false, f.t1, f.o2, f.t2, false, f.t3, false, f.t4⟩ N hi) ?_
 rintro _ rfl
 repeat refine evF ?_
 obtain hg | hg := Bool.eq_false_or_eq_true (goodB N)
 ·have hin : inB x 0 ((N.ends.length : Int) - 1) = false := by
   unfold nodeB at hno
   rw [hg] at hno
   simpa using hno
  have dfx := And.intro dfx (@hg)
  repeat refine evF ?_
  refine cgF rfl rfl ⟨rfl, _, rfl⟩ (by omega) (by first | exact may55 | exact may56) (hasNode_d ⟨false, f.t1, f.o2, f.t2, false, f.t3, false, f.t4⟩ N x hl) ?_
  rintro _ rfl
  repeat refine evF ?_
  have dfx := And.intro dfx (@hin)
  repeat refine evF ?_
  have dfk := And.intro @hin @hg
  refine aops_end (hK _ (dwKF [14] ?_))
  clear hK K
  refine dwI (fun hb => ?_) (fun hb => ?_)
  ·refine dw_seq (dwR fun K hK => ?_)
   repeat refine evF ?_
   refine aops_end (hK _ (dwK [4, 5] ?_))
   clear hK K
   refine dw_nil 4 3 1 (by decide) (by simp only [bunK, C.at, C.put, List.dropLast, List.isPrefixOf, Nat.reduceMul, Nat.reduceLT, Nat.reduceLeDiff, Nat.reduceBEq, Nat.reduceEqDiff, reduceCtorEq, Nat.reduceAdd, ↓reduceIte]) [4, 5] (by simp only [bunK, C.at, C.put, List.dropLast, List.isPrefixOf, Nat.reduceMul, Nat.reduceLT, Nat.reduceLeDiff, Nat.reduceBEq, Nat.reduceEqDiff, reduceCtorEq, Nat.reduceAdd, ↓reduceIte]; exact rfl) ?_
   exact dw_ret (fin_ret Tryz.results10 (.two (.own _ _ _ _ rfl rfl (own1 (owned_ints _ []))) (.plain _ _ rfl)) (by decide) rfl)
  ·cases hb
 ·have dfx := And.intro dfx (@hg)
  repeat refine evF ?_
  have dfx := And.intro dfx (@hg)
  refine csF ?_
  repeat refine evF ?_
  have dfx := And.intro dfx (@hg)
  repeat refine evF ?_
  have dfk := @hg
  refine aops_end (hK _ (dwKF [14] ?_))
  clear hK K
  refine dwI (fun hb => ?_) (fun hb => ?_)
  ·refine dw_seq (dwR fun K hK => ?_)
   repeat refine evF ?_
   refine aops_end (hK _ (dwK [4, 5] ?_))
   clear hK K
   refine dw_nil 4 3 1 (by decide) (by simp only [bunK, C.at, C.put, List.dropLast, List.isPrefixOf, Nat.reduceMul, Nat.reduceLT, Nat.reduceLeDiff, Nat.reduceBEq, Nat.reduceEqDiff, reduceCtorEq, Nat.reduceAdd, ↓reduceIte]) [4, 5] (by simp only [bunK, C.at, C.put, List.dropLast, List.isPrefixOf, Nat.reduceMul, Nat.reduceLT, Nat.reduceLeDiff, Nat.reduceBEq, Nat.reduceEqDiff, reduceCtorEq, Nat.reduceAdd, ↓reduceIte]; exact rfl) ?_
   exact dw_ret (fin_ret Tryz.results10 (.two (.own _ _ _ _ rfl rfl (own1 (owned_ints _ []))) (.plain _ _ rfl)) (by decide) rfl)
  ·cases hb
end
section
open Go Go.RowKit
theorem dfxDms5 : type_of% (And.intro tab27 (And.intro tab25 (And.intro tab3 (And.intro tab24 (And.intro tab82 (And.intro @if_pos.{1} (And.intro @rowi (And.intro tab35 (And.intro @getDe (And.intro @getDp (And.intro @getDi (And.intro @toNat0 (And.intro @toNat1 @trivial))))))))))))) := And.intro tab27 (And.intro tab25 (And.intro tab3 (And.intro tab24 (And.intro tab82 (And.intro @if_pos.{1} (And.intro @rowi (And.intro tab35 (And.intro @getDe (And.intro @getDp (And.intro @getDi (And.intro @toNat0 (And.intro @toNat1 @trivial))))))))))))
set_option maxRecDepth 8000 in
set_option maxHeartbeats 0 in
theorem qMost_d (o : Bool) (t : TypeId) (xs : List Int) (hl : xs.length ≤ 1000000) : DCalls Tryz.prog 25 [.c (.sl o t 1 (xs.map iC))] (fun r => r = [.c (.p (.int .i64 (mx0 xs)))]) := by
 refine dcalls_of Tryz.func25 rfl (by rw [Tryz.ntmps25]; simp) fun w0 => ?_
 rw [Tryz.ntmps25]
 have dfx := dfxDms5
 simp only [initE, argsL, Arg.av, netC, endss, ints, ends]
 refine dw_seq (dwR fun K hK => ?_)
 repeat refine evF ?_
 refine aops_end (hK _ (dwK [0] ?_))
 clear hK K
 refine dw_seq (dwR fun K hK => ?_)
 repeat refine evF ?_
 refine aops_end (hK _ (dwK [0, 3] ?_))
 clear hK K
 refine dw_seq ?_
 refine dw_seq (dwR fun K hK => ?_)
 repeat refine evF ?_
 refine aops_end (hK _ (dwK [3, 6, 7, 8] ?_))
 clear hK K
 refine dw_block ?_
 refine dw_loopP (X := Nat) (fun k => k ≤ xs.length) (fun k => [(3, .c (.p (.int .i64 (mx0 (xs.take k))))), (8, .c (.p (.int .i64 k)))]) (fun k => []) (fun k => xs.length - k) 0 (Nat.zero_le _) (by first | rfl | (simp only [bunK, C.at, C.put, List.dropLast, List.isPrefixOf, Nat.reduceMul, Nat.reduceLT, Nat.reduceLeDiff, Nat.reduceBEq, Nat.reduceEqDiff, reduceCtorEq, Nat.reduceAdd, ↓reduceIte, Int.natCast_zero] <;> rfl)) ?_
 rintro k hk
 intro E hE
 simp only [bunK, C.at, C.put, List.dropLast, List.isPrefixOf, Nat.reduceMul, Nat.reduceLT, Nat.reduceLeDiff, Nat.reduceBEq, Nat.reduceEqDiff, reduceCtorEq, Nat.reduceAdd, ↓reduceIte] at hE
 subst hE
 refine dw_seq (dwR fun K hK => ?_)
 repeat refine evF ?_
 refine aops_end (hK _ (dwK [3, 6, 7, 8, 9] ?_))
 clear hK K
 refine dw_seq (dwI (fun hb => ?_) (fun hb => ?_))
 ·have hkl : k < xs.length := by simpa using hb
  have hmt := mx0_take xs hkl
  refine dw_skip ?_
  show DW _ _ _ _ _
  refine dw_join (X := Unit) (fun _u => True) (fun _u => mkE 18 [(3, .c (.p (.int .i64 (mx0 (xs.take (k + 1)))))), (6, .c (.sl o t 1 (xs.map iC))), (7, .c (.p (.int .i64 (xs.length : Int)))), (8, .c (.p (.int .i64 k)))] []) ?_ ?_
  ·refine dw_block ?_
   refine dw_seq (dwR fun K hK => ?_)
   repeat refine evF ?_
   refine aops_end (hK _ (dwK [3, 5, 6, 7, 8] ?_))
   clear hK K
   refine dw_seq (dwR fun K hK => ?_)
   repeat refine evF ?_
   refine aops_end (hK _ (dwK [3, 5, 6, 7, 8, 14] ?_))
   clear hK K
   refine dwI (fun hb => ?_) (fun hb => ?_)
   ·have h0 : mx0 (xs.take k) < gi xs k := by simpa using hb
    have hns : mx0 (xs.take (k + 1)) = gi xs k := by omega
    refine dwR fun K hK => ?_
    repeat refine evF ?_
    refine aops_end (hK _ ?_)
    clear hK K
    show ∃ x, _ ∧ Weak _ _
    refine ⟨(), ?_, (weak_keep _ [3, 6, 7, 8]).trans (Weak.of_eq (by simp only [bunK, C.at, C.put, List.dropLast, List.isPrefixOf, Nat.reduceMul, Nat.reduceLT, Nat.reduceLeDiff, Nat.reduceBEq, Nat.reduceEqDiff, reduceCtorEq, Nat.reduceAdd, ↓reduceIte , hns] <;> exact rfl))⟩
    trivial
   ·have h0 : ¬ mx0 (xs.take k) < gi xs k := by simpa using hb
    have hns : mx0 (xs.take (k + 1)) = mx0 (xs.take k) := by omega
    refine dw_skip ?_
    show ∃ x, _ ∧ Weak _ _
    refine ⟨(), ?_, (weak_keep _ [3, 6, 7, 8]).trans (Weak.of_eq (by simp only [bunK, C.at, C.put, List.dropLast, List.isPrefixOf, Nat.reduceMul, Nat.reduceLT, Nat.reduceLeDiff, Nat.reduceBEq, Nat.reduceEqDiff, reduceCtorEq, Nat.reduceAdd, ↓reduceIte , hns] <;> exact rfl))⟩
    trivial
  ·rintro _ _
   refine dwR fun K hK => ?_
   repeat refine evF ?_
   have dfk := @castS
   refine aops_end (hK _ ?_)
   clear hK K
   show ∃ x, _ ∧ _ ∧ Weak _ _
   refine ⟨k + 1, ?_, ?_, weakFk [3, 6, 7, 8]⟩
   ·omega
   ·omega
 ·have hk2 : k = xs.length := by
   have : ¬ (k : Int) < (xs.length : Int) := by simpa using hb
   omega
  refine dw_leave3 ?_
  refine dw_keep [3] (by simp only [bunK, C.at, C.put, List.dropLast, List.isPrefixOf, Nat.reduceMul, Nat.reduceLT, Nat.reduceLeDiff, Nat.reduceBEq, Nat.reduceEqDiff, reduceCtorEq, Nat.reduceAdd, ↓reduceIte]; exact rfl) ?_
  refine dw_seq (dwR fun K hK => ?_)
  repeat refine evF ?_
  refine aops_end (hK _ (dwK [2] ?_))
  clear hK K
  exact dw_ret (fin_ret Tryz.results25 (.one (.plain _ _ rfl)) (by decide) (by rw [hk2, List.take_length]))
set_option maxRecDepth 8000 in
set_option maxHeartbeats 0 in
theorem specCentresOf_d (f : NF) (N : Net) : DCalls Tryz.prog 24 [.agg (netC f N)] (fun r => r = [.own false [.sl true 3 1 ((cenL N).map iC)], .c (.p (.bool (conB N)))]) := by
 refine dcalls_of Tryz.func24 rfl (by rw [Tryz.ntmps24]; simp) fun w0 => ?_
 rw [Tryz.ntmps24]
 have dfx := dfxDms5
 simp only [initE, argsL, Arg.av, netC, endss, ints, ends]
 refine dw_seq (dwR fun K hK => ?_)
 repeat refine evF ?_
 refine aops_end (hK _ (dwK [1] ?_))
 clear hK K
 refine dw_seq ?_
 refine dw_seq (dwR fun K hK => ?_)
 repeat refine evF ?_
 refine clF rfl ⟨rfl, _, rfl⟩ (by omega) (by first | exact may71 | exact may72) (neGood_d ⟨false, f.t1, f.o2, f.t2, false, f.t3, false, f.t4⟩ N) ?_
 rintro _ rfl
 repeat refine evF ?_
 obtain hg | hg := Bool.eq_false_or_eq_true (goodB N)
 ·obtain ⟨hs, hn, -, hdg⟩ := good_all hg
  have dfx := And.intro dfx (@hg)
  repeat refine evF ?_
  refine cgF rfl rfl ⟨rfl, _, rfl⟩ (by omega) (by first | exact may71 | exact may72) (meConnected_d ⟨false, f.t1, f.o2, f.t2, false, f.t3, false, f.t4⟩ N hg) ?_
  rintro _ rfl
  repeat refine evF ?_
  obtain hc | hc := Bool.eq_false_or_eq_true (connB N 0)
  ·have hk : conB N = true := by rw [conB, hg, hc]; rfl
   have hel := eccs_len N
   have dfx := And.intro dfx (@hc)
   repeat refine evF ?_
   have dfk := And.intro @hg @hc
   refine aops_end (hK _ (dwKF [1, 15] ?_))
   clear hK K
   refine dwI (fun hb => ?_) (fun hb => ?_)
   ·cases hb
   ·refine dw_skip ?_
    show DW _ _ _ _ _
    refine dw_seq (dwR fun K hK => ?_)
    repeat refine evF ?_
    refine aops_end (hK _ (dwK [1, 4] ?_))
    clear hK K
    refine dw_seq (dwR fun K hK => ?_)
    repeat refine evF ?_
    refine aops_end (hK _ (dwK [1, 4, 5] ?_))
    clear hK K
    refine dw_seq ?_
    refine dw_seq (dwR fun K hK => ?_)
    repeat refine evF ?_
    refine aops_end (hK _ (dwK [1, 4, 5, 18, 19] ?_))
    clear hK K
    refine dw_block ?_
    refine dw_nil 4 3 1 (by decide) (by simp only [bunK, C.at, C.put, List.dropLast, List.isPrefixOf, Nat.reduceMul, Nat.reduceLT, Nat.reduceLeDiff, Nat.reduceBEq, Nat.reduceEqDiff, reduceCtorEq, Nat.reduceAdd, ↓reduceIte]) [1, 4, 5, 18, 19] (by simp only [bunK, C.at, C.put, List.dropLast, List.isPrefixOf, Nat.reduceMul, Nat.reduceLT, Nat.reduceLeDiff, Nat.reduceBEq, Nat.reduceEqDiff, reduceCtorEq, Nat.reduceAdd, ↓reduceIte]; exact rfl) ?_
    refine dw_loopP (X := Nat) (fun k => k ≤ N.ends.length) (fun k => [(5, .c (.p (.int .i64 (mn0 ((eccs N).take k))))), (19, .c (.p (.int .i64 k)))]) (fun k => [((4, 0), ⟨none, [.sl true 3 1 ((pickT (fun j => gi (eccs N) j == mn0 ((eccs N).take k)) k).map iC)]⟩)]) (fun k => N.ends.length - k) 0 (Nat.zero_le _) (by first | rfl | (simp only [bunK, C.at, C.put, List.dropLast, List.isPrefixOf, Nat.reduceMul, Nat.reduceLT, Nat.reduceLeDiff, Nat.reduceBEq, Nat.reduceEqDiff, reduceCtorEq, Nat.reduceAdd, ↓reduceIte, Int.natCast_zero] <;> rfl)) ?_
    rintro k hk9
    intro E hE
    simp only [bunK, C.at, C.put, List.dropLast, List.isPrefixOf, Nat.reduceMul, Nat.reduceLT, Nat.reduceLeDiff, Nat.reduceBEq, Nat.reduceEqDiff, reduceCtorEq, Nat.reduceAdd, ↓reduceIte] at hE
    subst hE
    refine dw_seq (dwR fun K hK => ?_)
    repeat refine evF ?_
    refine aops_end (hK _ (dwK [1, 4, 5, 18, 19, 20] ?_))
    clear hK K
    refine dw_seq (dwI (fun hb => ?_) (fun hb => ?_))
    ·have hkl : k < N.ends.length := by simpa using hb
     have hkd : k < (eccs N).length := by omega
     have hek := eccs_at hkl
     have hdl := (dists_is hs hkl).len
     have hec : mx0 (dists N k) = ecc N k := rfl
     have hmt := mn0_take (eccs N) hkd
     refine dw_skip ?_
     show DW _ _ _ _ _
     refine dw_join (X := Unit) (fun _u => True) (fun _u => mkE 39 [(1, .box), (4, .own false 1), (5, .c (.p (.int .i64 (mn0 ((eccs N).take (k + 1)))))), (18, .c (.p (.int .i64 (N.ends.length : Int)))), (19, .c (.p (.int .i64 k)))] [((1, 0), ⟨some 27, [.sl false f.t1 1 (N.ends.map fun es => [.sl f.o2 f.t2 2 (es.map eC)]), .sl false f.t3 1 (N.ids.map iC), .sl false f.t4 1 (N.inputs.map iC)]⟩), ((4, 0), ⟨none, [.sl true 3 1 ((pickT (fun j => gi (eccs N) j == mn0 ((eccs N).take (k + 1))) (k + 1)).map iC)]⟩)]) ?_ ?_
     ·refine dw_block ?_
      refine dw_seq (dwR fun K hK => ?_)
      repeat refine evF ?_
      refine aops_end (hK _ (dwK [1, 4, 5, 6, 18, 19] ?_))
      clear hK K
      refine dw_seq (dwR fun K hK => ?_)
      repeat refine evF ?_
      refine clF rfl ⟨rfl, _, rfl⟩ (by omega) (by first | exact may61 | exact may75) (meFrom_d ⟨false, f.t1, f.o2, f.t2, false, f.t3, false, f.t4⟩ N k hs hkl (by omega) hdg) ?_
      rintro _ rfl
      repeat refine evF ?_
      refine clF rfl ⟨rfl, _, rfl⟩ (by omega) (by first | exact may61 | exact may75) (meMost_d true 3 (dists N k) (by omega)) ?_
      rintro _ rfl
      repeat refine evF ?_
      have dfx := And.intro dfx (@hec)
      repeat refine evF ?_
      have dfk := @hec
      refine aops_end (hK _ (dwKF [1, 4, 5, 6, 7, 18, 19] ?_))
      clear hK K
      refine dw_join (X := Unit) (fun _u => True) (fun _u => mkE 39 [(1, .box), (4, .own false 1), (5, .c (.p (.int .i64 (mn0 ((eccs N).take (k + 1)))))), (6, .c (.p (.int .i64 k))), (7, .c (.p (.int .i64 (ecc N k)))), (18, .c (.p (.int .i64 (N.ends.length : Int)))), (19, .c (.p (.int .i64 k)))] [((1, 0), ⟨some 27, [.sl false f.t1 1 (N.ends.map fun es => [.sl f.o2 f.t2 2 (es.map eC)]), .sl false f.t3 1 (N.ids.map iC), .sl false f.t4 1 (N.inputs.map iC)]⟩), ((4, 0), ⟨none, [.sl true 3 1 ((pickT (fun j => gi (eccs N) j == mn0 ((eccs N).take (k + 1))) k).map iC)]⟩)]) ?_ ?_
      ·refine dw_seq (dwR fun K hK => ?_)
       repeat refine evF ?_
       refine aops_end (hK _ (dwK [1, 4, 5, 6, 7, 18, 19, 28] ?_))
       clear hK K
       refine dwI (fun hb => ?_) (fun hb => ?_)
       ·have h0 : ecc N k < mn0 ((eccs N).take k) := by simpa using hb
        have hns : mn0 ((eccs N).take (k + 1)) = ecc N k := by omega
        have hpn : pickT (fun j => gi (eccs N) j == ecc N k) k = [] := by
         have h1 := (cen_less (l := eccs N) (k := k) (by omega) hkd).2
         rw [hek, pickT_yes (by simp [hek])] at h1
         simpa using h1
        refine dw_seq (dwR fun K hK => ?_)
        repeat refine evF ?_
        refine aops_end (hK _ (dwK [1, 5, 6, 7, 18, 19] ?_))
        clear hK K
        refine dwR fun K hK => ?_
        repeat refine evF ?_
        refine aops_end (hK _ ?_)
        clear hK K
        show ∃ x, _ ∧ Weak _ _
        refine ⟨(), trivial, (weak_nil (s := 4) 3 1 (by decide) (by simp only [bunK, C.at, C.put, List.dropLast, List.isPrefixOf, Nat.reduceMul, Nat.reduceLT, Nat.reduceLeDiff, Nat.reduceBEq, Nat.reduceEqDiff, reduceCtorEq, Nat.reduceAdd, ↓reduceIte])).trans ((weak_keep _ [1, 4, 5, 6, 7, 18, 19]).trans (Weak.of_eq (by simp only [bunK, C.at, C.put, List.dropLast, List.isPrefixOf, Nat.reduceMul, Nat.reduceLT, Nat.reduceLeDiff, Nat.reduceBEq, Nat.reduceEqDiff, reduceCtorEq, Nat.reduceAdd, ↓reduceIte, hns, hpn] <;> exact rfl)))⟩
       ·have h0 : ¬ ecc N k < mn0 ((eccs N).take k) := by simpa using hb
        have hns : mn0 ((eccs N).take (k + 1)) = mn0 ((eccs N).take k) := by omega
        refine dw_skip ?_
        show ∃ x, _ ∧ Weak _ _
        refine ⟨(), ?_, (weak_keep _ [1, 4, 5, 6, 7, 18, 19]).trans (Weak.of_eq (by simp only [bunK, C.at, C.put, List.dropLast, List.isPrefixOf, Nat.reduceMul, Nat.reduceLT, Nat.reduceLeDiff, Nat.reduceBEq, Nat.reduceEqDiff, reduceCtorEq, Nat.reduceAdd, ↓reduceIte , hns] <;> exact rfl))⟩
        trivial
      ·rintro _ _
       refine dw_seq (dwR fun K hK => ?_)
       repeat refine evF ?_
       refine aops_end (hK _ (dwK [1, 4, 5, 6, 18, 19, 32] ?_))
       clear hK K
       have hpl := pickT_le (fun j => gi (eccs N) j == mn0 ((eccs N).take (k + 1))) k
       refine dwI (fun hb => ?_) (fun hb => ?_)
       ·have hns := pickT_yes (p := fun j => gi (eccs N) j == mn0 ((eccs N).take (k + 1))) (k := k) (by rw [hek]; simpa using hb)
        refine dwR fun K hK => ?_
        repeat refine evF ?_
        refine aops_end (hK _ ?_)
        clear hK K
        show ∃ x, _ ∧ Weak _ _
        refine ⟨(), ?_, (weak_keep _ [1, 4, 5, 18, 19]).trans (Weak.of_eq (by simp only [bunK, C.at, C.put, List.dropLast, List.isPrefixOf, Nat.reduceMul, Nat.reduceLT, Nat.reduceLeDiff, Nat.reduceBEq, Nat.reduceEqDiff, reduceCtorEq, Nat.reduceAdd, ↓reduceIte , snoc_iC, hns] <;> exact rfl))⟩
        trivial
       ·have hns := pickT_no (p := fun j => gi (eccs N) j == mn0 ((eccs N).take (k + 1))) (k := k) (by rw [hek]; simpa using hb)
        refine dw_skip ?_
        show ∃ x, _ ∧ Weak _ _
        refine ⟨(), ?_, (weak_keep _ [1, 4, 5, 18, 19]).trans (Weak.of_eq (by simp only [bunK, C.at, C.put, List.dropLast, List.isPrefixOf, Nat.reduceMul, Nat.reduceLT, Nat.reduceLeDiff, Nat.reduceBEq, Nat.reduceEqDiff, reduceCtorEq, Nat.reduceAdd, ↓reduceIte , hns] <;> exact rfl))⟩
        trivial
     ·rintro _ _
      refine dwR fun K hK => ?_
      repeat refine evF ?_
      have dfk := @castS
      refine aops_end (hK _ ?_)
      clear hK K
      show ∃ x, _ ∧ _ ∧ Weak _ _
      refine ⟨k + 1, ?_, ?_, weakFk [1, 4, 5, 18, 19]⟩
      ·omega
      ·omega
    ·have hk2 : k = N.ends.length := by
      have : ¬ k < N.ends.length := by simpa using hb
      omega
     have htk : (eccs N).take k = eccs N := by rw [hk2, ← hel, List.take_length]
     refine dw_leave3 ?_
     refine dw_keep [4] (by simp only [bunK, C.at, C.put, List.dropLast, List.isPrefixOf, Nat.reduceMul, Nat.reduceLT, Nat.reduceLeDiff, Nat.reduceBEq, Nat.reduceEqDiff, reduceCtorEq, Nat.reduceAdd, ↓reduceIte]; exact rfl) ?_
     refine dw_seq (dwR fun K hK => ?_)
     repeat refine evF ?_
     refine aops_end (hK _ (dwK [2, 3] ?_))
     clear hK K
     exact dw_ret (fin_ret Tryz.results24 (.two (.own _ _ _ _ rfl rfl (own1 (owned_ints _ _))) (.plain _ _ rfl)) (by decide) (by rw [htk, hk, cenL, if_pos hk, hk2]))
  ·have hk : conB N = false := by rw [conB, hg, hc]; rfl
   have dfx := And.intro dfx (@hc)
   repeat refine evF ?_
   have dfk := And.intro @hg @hc
   refine aops_end (hK _ (dwKF [15] ?_))
   clear hK K
   refine dwI (fun hb => ?_) (fun hb => ?_)
   ·refine dw_seq (dwR fun K hK => ?_)
    repeat refine evF ?_
    refine aops_end (hK _ (dwK [2, 3] ?_))
    clear hK K
    refine dw_nil 2 3 1 (by decide) (by simp only [bunK, C.at, C.put, List.dropLast, List.isPrefixOf, Nat.reduceMul, Nat.reduceLT, Nat.reduceLeDiff, Nat.reduceBEq, Nat.reduceEqDiff, reduceCtorEq, Nat.reduceAdd, ↓reduceIte]) [2, 3] (by simp only [bunK, C.at, C.put, List.dropLast, List.isPrefixOf, Nat.reduceMul, Nat.reduceLT, Nat.reduceLeDiff, Nat.reduceBEq, Nat.reduceEqDiff, reduceCtorEq, Nat.reduceAdd, ↓reduceIte]; exact rfl) ?_
    exact dw_ret (fin_ret Tryz.results24 (.two (.own _ _ _ _ rfl rfl (own1 (owned_ints _ []))) (.plain _ _ rfl)) (by decide) (by rw [cenL, hk]; rfl))
   ·cases hb
 ·have hk : conB N = false := by rw [conB, hg]; rfl
  have dfx := And.intro dfx (@hg)
  repeat refine evF ?_
  have dfx := And.intro dfx (@hg)
  refine csF ?_
  repeat refine evF ?_
  have dfx := And.intro dfx (@hg)
  repeat refine evF ?_
  have dfk := @hg
  refine aops_end (hK _ (dwKF [15] ?_))
  clear hK K
  refine dwI (fun hb => ?_) (fun hb => ?_)
  ·refine dw_seq (dwR fun K hK => ?_)
   repeat refine evF ?_
   refine aops_end (hK _ (dwK [2, 3] ?_))
   clear hK K
   refine dw_nil 2 3 1 (by decide) (by simp only [bunK, C.at, C.put, List.dropLast, List.isPrefixOf, Nat.reduceMul, Nat.reduceLT, Nat.reduceLeDiff, Nat.reduceBEq, Nat.reduceEqDiff, reduceCtorEq, Nat.reduceAdd, ↓reduceIte]) [2, 3] (by simp only [bunK, C.at, C.put, List.dropLast, List.isPrefixOf, Nat.reduceMul, Nat.reduceLT, Nat.reduceLeDiff, Nat.reduceBEq, Nat.reduceEqDiff, reduceCtorEq, Nat.reduceAdd, ↓reduceIte]; exact rfl) ?_
   exact dw_ret (fin_ret Tryz.results24 (.two (.own _ _ _ _ rfl rfl (own1 (owned_ints _ []))) (.plain _ _ rfl)) (by decide) (by rw [cenL, hk]; rfl))
  ·cases hb
end
end Go.Proofs.YtdiiggpohcjppaaGreat
