/- Parts of the proof, joined: Cyc, Dbl. -/
import Derived.Test.YtlaahgdikiiahaaCJn28
import Derived.Test.YtlaahgdikiiahaaCJn32
import Derived.Test.YtlaahgdikiiahaaCDt
import Derived.Test.YtlaahgdikiiahaaCNw3
set_option linter.unusedSimpArgs false
set_option linter.unusedVariables false
namespace Go.Proofs.Ytlaahgdikiiahaa
section
open Go Go.RowKit
def cycRow (n k : Nat) : List (Int × Int) := [((k + 1 : Int).tmod n, 1), ((k + n - 1 : Int).tmod n, 0)]
def cycN (n k : Nat) : Net := ⟨(List.range n).map fun v => if v < k then cycRow n v else [], [], List.replicate n 0⟩
theorem cyc0 (n : Nat) : emptyN n = cycN n 0 := by
 unfold emptyN cycN
 congr 1
 apply List.ext_getElem
 ·simp
 ·intro i h1 h2; simp
theorem cyc_set {n k : Nat} (h : k < n) : (cycN n k).ends.set k (cycRow n k) = (cycN n (k + 1)).ends := by
 unfold cycN
 apply List.ext_getElem
 ·simp
 ·intro i h1 h2
  simp only [List.getElem_set, List.getElem_map, List.getElem_range]
  by_cases h3 : k = i
  ·subst h3; rw [if_pos rfl, if_pos (by omega)]
  ·rw [if_neg h3]
   by_cases h4 : i < k
   ·rw [if_pos h4, if_pos (by omega)]
   ·rw [if_neg h4, if_neg (by omega)]
theorem rowes {t2 : TypeId} {ess : List (List (Int × Int))} {k : Nat} (h : k < ess.length) : rowC (ess.map (esC t2)) k 0 = some (.sl true t2 2 ((gl ess k).map eC)) := rowC_some.2 ⟨_, by rw [List.getElem?_map, List.getElem?_eq_getElem h]; rfl, by rw [esC, gl_lt h]; rfl⟩
theorem es_put {t2 : TypeId} {ess : List (List (Int × Int))} {k : Nat} {es : List (Int × Int)} : (((ess.map (esC t2)).modify k fun row => row.modify 0 fun _ => C.hole).modify k fun row => row.modify 0 fun _ => C.sl true t2 2 (es.map eC)) = (ess.set k es).map (esC t2) := by
 apply List.ext_getElem?
 intro i
 simp only [List.getElem?_modify, List.getElem?_map, List.getElem?_set]
 by_cases h : k = i
 ·subst h
  by_cases hk : k < ess.length
  ·simp [List.getElem?_eq_getElem hk, hk, esC]
  ·simp [List.getElem?_eq_none (Nat.le_of_not_lt hk), hk]
 ·simp [h]
theorem cyc_put {t2 : TypeId} {n k : Nat} (h : k < n) : ((((cycN n k).ends.map (esC t2)).modify k fun row => row.modify 0 fun _ => C.hole).modify k fun row => row.modify 0 fun _ => C.sl true t2 2 [[C.p (.int .i64 ((k + 1 : Int).tmod n)), C.p (.int .i64 1)], [C.p (.int .i64 ((k + n - 1 : Int).tmod n)), C.p (.int .i64 0)]]) = (cycN n (k + 1)).ends.map (esC t2) := by
 rw [← cyc_set h]
 exact es_put (es := cycRow n k)
theorem cyc_len (n k : Nat) : (cycN n k).ends.length = n := by simp [cycN]
theorem neEmpty_d (n : Nat) (hn : n ≤ 1000) : DCalls Try.prog 63 [.c (.p (.int .i64 n))] (fun r => r = [.own true (netO (emptyN n))]) := dcalls_nt fun w vs h1 h2 => by
 obtain ⟨u, rfl, g1⟩ := args1 h1 h2
 rw [argI g1]
 exact neEmpty_any n w (by omega)
def buCycleSt5 : Nat → Stat
 | 0 => ⟨[3], [(3, 1)], [], [13], [], []⟩
 | 1 => ⟨[13], [(3, 1)], [], [14], [], []⟩
 | 2 => ⟨[4], [], [], [15], [], []⟩
 | 3 => ⟨[4], [], [], [16], [], []⟩
 | 4 => ⟨[16], [], [], [17], [], []⟩
 | 5 => ⟨[0], [], [], [18], [], []⟩
 | 6 => ⟨[17, 18], [], [], [19], [], []⟩
 | 7 => ⟨[19], [], [], [20], [], []⟩
 | 8 => ⟨[4], [], [], [21], [], []⟩
 | 9 => ⟨[0], [], [], [22], [], []⟩
 | 10 => ⟨[21, 22], [], [], [23], [], []⟩
 | 11 => ⟨[23], [], [], [24], [], []⟩
 | 12 => ⟨[0], [], [], [25], [], []⟩
 | 13 => ⟨[24, 25], [], [], [26], [], []⟩
 | 14 => ⟨[26], [], [], [27], [], []⟩
 | 15 => ⟨[20, 27], [], [], [28], [], []⟩
 | 16 => ⟨[14, 15], [(3, 1)], [], [29], [], []⟩
 | 17 => ⟨[29, 28], [(3, 2)], [28], [], [(3, 2), (28, 1)], []⟩
 | _ => ⟨[], [], [], [], [], []⟩
theorem dfxCyc : type_of% (And.intro tab27 (And.intro @netO.eq_1 (And.intro @rowi (And.intro tab24 (And.intro tab38 (And.intro tab40 (And.intro tab3 (And.intro tab25 (And.intro @if_pos.{1} @trivial))))))))) := And.intro tab27 (And.intro @netO.eq_1 (And.intro @rowi (And.intro tab24 (And.intro tab38 (And.intro tab40 (And.intro tab3 (And.intro tab25 (And.intro @if_pos.{1} @trivial))))))))
set_option maxRecDepth 8000 in
set_option maxHeartbeats 0 in
theorem buCycle_d (n : Nat) (hn : n ≤ 600) (hp : 0 < n) : DCalls Try.prog 53 [.c (.p (.int .i64 n))] (fun r => r = [.own true (netO (cycN n n))]) := by
 refine dcalls_of Try.func53 rfl (by rw [Try.ntmps53]; simp) fun w0 => ?_
 rw [Try.ntmps53]
 have dfx := dfxCyc
 simp only [initE, argsL, Arg.av]
 refine dw_seq (dwR fun K hK => ?_)
 repeat refine evF ?_
 refine aops_end (hK _ (dwK [0, 2] ?_))
 clear hK K
 refine dw_seq (dwR fun K hK => ?_)
 repeat refine evF ?_
 refine clF rfl ⟨rfl, _, rfl⟩ (by omega) (by first | exact may63) (neEmpty_d n (by omega)) ?_
 rintro _ rfl
 repeat refine evF ?_
 have dfk := @cyc0
 refine aops_end (hK _ (dwKF [0, 2, 3] ?_))
 clear hK K
 have hl := cyc_len n
 refine dw_seq ?_
 have dfx := And.intro dfx (@hl)
 refine dw_seq (dwR fun K hK => ?_)
 repeat refine evF ?_
 have dfk := @hl
 refine aops_end (hK _ (dwKF [0, 2, 3, 9, 10] ?_))
 clear hK K
 refine dw_block ?_
 refine dw_loopP (X := Nat) (fun k => k ≤ n) (fun k => [(10, .c (.p (.int .i64 k)))]) (fun k => [((3, 0), ⟨some 27, [.sl true 38 1 ((cycN n k).ends.map (esC 40)), .sl true 3 1 ((cycN n k).ids.map iC), .sl true 3 1 ((cycN n k).inputs.map iC)]⟩)]) (fun k => n - k) 0 (Nat.zero_le _) (by first | rfl | (simp only [bunK, C.at, C.put, List.dropLast, List.isPrefixOf, Nat.reduceMul, Nat.reduceLT, Nat.reduceLeDiff, Nat.reduceBEq, Nat.reduceEqDiff, reduceCtorEq, Nat.reduceAdd, ↓reduceIte, Int.natCast_zero] <;> rfl)) ?_
 rintro k hk
 intro E hE
 simp only [bunK, C.at, C.put, List.dropLast, List.isPrefixOf, Nat.reduceMul, Nat.reduceLT, Nat.reduceLeDiff, Nat.reduceBEq, Nat.reduceEqDiff, reduceCtorEq, Nat.reduceAdd, ↓reduceIte] at hE
 subst hE
 refine dw_seq (dwR fun K hK => ?_)
 repeat refine evF ?_
 refine aops_end (hK _ (dwK [0, 2, 3, 9, 10, 11] ?_))
 clear hK K
 refine dw_seq (dwI (fun hb => ?_) (fun hb => ?_))
 ·have hkn : k < n := by simp at hb; omega
  have hn0 : ((n : Int) = 0) ↔ False := ⟨fun h => by omega, False.elim⟩
  have hl' := hl k
  refine dw_skip ?_
  show DW _ _ _ _ _
  refine dw_seq (dw_block ?_)
  refine dw_seq (dwR fun K hK => ?_)
  repeat refine evF ?_
  refine aops_end (hK _ (dwK [0, 2, 3, 4, 9, 10] ?_))
  clear hK K
  have dfx := And.intro dfx (And.intro @buCycleSt5.eq_def (And.intro @hn0 (And.intro @rowes @hl')))
  refine dwRD buCycleSt5 (fun j r => match j with | _ => True) fun K hK => ?_
  repeat refine dvF ?_
  refine dops_end (hK _ (dw_keep [0, 2, 3, 9, 10] (by simp only [bunK, C.at, C.put, List.dropLast, List.isPrefixOf, Nat.reduceMul, Nat.reduceLT, Nat.reduceLeDiff, Nat.reduceBEq, Nat.reduceEqDiff, reduceCtorEq, Nat.reduceAdd, ↓reduceIte , cyc_put hkn]; exact rfl) ?_))
  clear hK K
  refine dwR fun K hK => ?_
  repeat refine evF ?_
  have dfk := @castS
  refine aops_end (hK _ ?_)
  clear hK K
  show ∃ x, _ ∧ _ ∧ Weak _ _
  refine ⟨k + 1, ?_, ?_, weakFk [0, 2, 3, 9, 10]⟩
  ·omega
  ·omega
 ·have hkn : k = n := by simp at hb; omega
  subst hkn
  refine dw_leave3 ?_
  refine dw_keep [2, 3] (by simp only [bunK, C.at, C.put, List.dropLast, List.isPrefixOf, Nat.reduceMul, Nat.reduceLT, Nat.reduceLeDiff, Nat.reduceBEq, Nat.reduceEqDiff, reduceCtorEq, Nat.reduceAdd, ↓reduceIte]; exact rfl) ?_
  refine dw_seq (dwR fun K hK => ?_)
  repeat refine evF ?_
  refine aops_end (hK _ (dwK [2] ?_))
  clear hK K
  exact dw_ret (fin_ret Try.results53 (.one (.cell 2 _ _ _ _ rfl rfl tab27 rfl rfl (netO_owned _))) (by decide) rfl)
end
section
open Go Go.RowKit
def dcnt (E : List (List (Int × Int))) (v i j : Nat) : Nat := if j < v then (gl E j).length else if j = v then i else 0
def dblR (E : List (List (Int × Int))) (v i : Nat) : List (List (Int × Int)) := (List.range (2 * E.length)).map fun j =>
 if j < E.length then ((gl E j).take (dcnt E v i j)).map (fun e : Int × Int => (e.1 + (E.length : Int), e.2)) else (gl E (j - E.length)).take (dcnt E v i (j - E.length))
def dblI (N : Net) (v : Nat) : List Int := (List.range (2 * N.ends.length)).map fun j =>
 if j < N.ends.length then (if j < v then gi N.inputs j else 0) else if j - N.ends.length < v then gi N.inputs (j - N.ends.length) else 0
def dblN (N : Net) (v : Nat) : Net := ⟨dblR N.ends v 0, [], dblI N v⟩
theorem dbl0 (N : Net) : emptyN (2 * N.ends.length) = dblN N 0 := by
 unfold emptyN dblN
 congr 1
 ·apply List.ext_getElem
  ·simp [dblR]
  ·intro j h1 h2
   simp only [dblR, List.getElem_replicate, List.getElem_map, List.getElem_range]
   have hc : ∀ k, dcnt N.ends 0 0 k = 0 := fun k => by unfold dcnt; rw [if_neg (by omega)]; split <;> rfl
   split <;> simp [hc]
 ·apply List.ext_getElem
  ·simp [dblI]
  ·intro j h1 h2
   simp only [dblI, List.getElem_replicate, List.getElem_map, List.getElem_range]
   split <;> simp
theorem dblR_len (E : List (List (Int × Int))) (v i : Nat) : (dblR E v i).length = 2 * E.length := by simp [dblR]
theorem dblI_len (N : Net) (v : Nat) : (dblI N v).length = 2 * N.ends.length := by simp [dblI]
theorem rowesm {t2 : TypeId} {ess : List (List (Int × Int))} {k : Nat} {y : C} (h : k < ess.length) : rowC ((ess.map (esC t2)).modify k fun row => row.modify 0 fun _ => y) k 0 = some y := rowC_some.2 ⟨[y], by simp [List.getElem?_modify, List.getElem?_eq_getElem h, esC], rfl⟩
theorem es_put3 {t2 : TypeId} {ess : List (List (Int × Int))} {k : Nat} {es : List (Int × Int)} : ((((ess.map (esC t2)).modify k fun row => row.modify 0 fun _ => C.hole).modify k fun row => row.modify 0 fun _ => C.hole).modify k fun row => row.modify 0 fun _ => C.sl true t2 2 (es.map eC)) = (ess.set k es).map (esC t2) := by
 apply List.ext_getElem?
 intro i
 simp only [List.getElem?_modify, List.getElem?_map, List.getElem?_set]
 by_cases h : k = i
 ·subst h
  by_cases hk : k < ess.length
  ·simp [List.getElem?_eq_getElem hk, hk, esC]
  ·simp [List.getElem?_eq_none (Nat.le_of_not_lt hk), hk]
 ·simp [h]
theorem gl_set_ne {L : List (List (Int × Int))} {v x : Nat} {A : List (Int × Int)} (h : x ≠ v) : gl (L.set v A) x = gl L x := by
 unfold gl
 rw [List.getD_eq_getElem?_getD, List.getD_eq_getElem?_getD, List.getElem?_set_ne (Ne.symm h)]
theorem dblR_lo {E : List (List (Int × Int))} {v i : Nat} (h : v < E.length) : gl (dblR E v i) v = ((gl E v).take i).map (fun e : Int × Int => (e.1 + (E.length : Int), e.2)) := by
 rw [gl_lt (by rw [dblR_len]; omega)]
 simp only [dblR, List.getElem_map, List.getElem_range]
 rw [if_pos h]
 have : dcnt E v i v = i := by unfold dcnt; rw [if_neg (by omega), if_pos rfl]
 rw [this]
theorem dblR_hi {E : List (List (Int × Int))} {v i : Nat} (h : v < E.length) : gl (dblR E v i) (v + E.length) = (gl E v).take i := by
 rw [gl_lt (by rw [dblR_len]; omega)]
 simp only [dblR, List.getElem_map, List.getElem_range]
 rw [if_neg (by omega), Nat.add_sub_cancel]
 have : dcnt E v i v = i := by unfold dcnt; rw [if_neg (by omega), if_pos rfl]
 rw [this]
theorem dbl_next {E : List (List (Int × Int))} {v i x : Nat} (h : v < E.length) (hi : i < (gl E v).length) (hx : v + E.length = x) :
 (((dblR E v i).set v (gl (dblR E v i) v ++ [((gp (gl E v) i).1 + (E.length : Int), (gp (gl E v) i).2)])).set x (gl (dblR E v i) x ++ [((gp (gl E v) i).1, (gp (gl E v) i).2)])) = dblR E v (i + 1) := by
 subst hx
 rw [dblR_lo h, dblR_hi h]
 have ht : (gl E v).take (i + 1) = (gl E v).take i ++ [gp (gl E v) i] := by rw [List.take_add_one, List.getElem?_eq_getElem hi, gp_lt hi]; rfl
 apply List.ext_getElem
 ·simp [dblR_len]
 ·intro j h1 h2
  rw [dblR_len] at h2
  simp only [List.getElem_set]
  by_cases h3 : v + E.length = j
  ·rw [if_pos h3]
   have := dblR_hi (i := i + 1) h
   rw [h3, gl_lt (by rw [dblR_len]; omega), ht] at this
   exact this.symm
  ·rw [if_neg h3]
   by_cases h4 : v = j
   ·subst h4
    rw [if_pos rfl]
    have := dblR_lo (i := i + 1) h
    rw [gl_lt (by rw [dblR_len]; omega), ht, List.map_append] at this
    exact this.symm
   ·rw [if_neg h4]
    simp only [dblR, List.getElem_map, List.getElem_range]
    have hc : ∀ k, k ≠ v → dcnt E v i k = dcnt E v (i + 1) k := fun k hk => by unfold dcnt; rw [if_neg hk, if_neg hk]
    split
    ·rw [hc j (Ne.symm h4)]
    ·rw [hc _ (by omega)]
theorem dblR_full {E : List (List (Int × Int))} {v : Nat} : dblR E v (gl E v).length = dblR E (v + 1) 0 := by
 unfold dblR
 have hc : ∀ k, dcnt E v (gl E v).length k = dcnt E (v + 1) 0 k := fun k => by
  unfold dcnt
  by_cases h : k < v
  ·rw [if_pos h, if_pos (by omega)]
  ·by_cases h2 : k = v
   ·subst h2; rw [if_neg h, if_pos rfl, if_pos (by omega)]
   ·rw [if_neg h, if_neg h2, if_neg (by omega)]; split <;> rfl
 congr 1
 funext j
 rw [hc, hc]
theorem dblI_next {N : Net} {v x : Nat} (h : v < N.ends.length) (hx : v + N.ends.length = x) : (((dblN N v).inputs.set v (gi N.inputs v)).set x (gi N.inputs v)) = (dblN N (v + 1)).inputs := by
 subst hx
 show ((dblI N v).set v _).set _ _ = dblI N (v + 1)
 apply List.ext_getElem
 ·simp [dblI_len]
 ·intro j h1 h2
  simp only [List.getElem_set]
  simp only [dblI, List.getElem_map, List.getElem_range]
  by_cases h3 : v + N.ends.length = j
  ·subst h3
   rw [if_pos rfl, if_neg (by omega), if_pos (by omega), Nat.add_sub_cancel]
  ·rw [if_neg h3]
   by_cases h4 : v = j
   ·subst h4; rw [if_pos rfl, if_pos h, if_pos (by omega)]
   ·rw [if_neg h4]
    by_cases h5 : j < N.ends.length
    ·rw [if_pos h5, if_pos h5]
     by_cases h6 : j < v
     ·rw [if_pos h6, if_pos (by omega)]
     ·rw [if_neg h6, if_neg (by omega)]
    ·rw [if_neg h5, if_neg h5]
     by_cases h6 : j - N.ends.length < v
     ·rw [if_pos h6, if_pos (by omega)]
     ·rw [if_neg h6, if_neg (by omega)]
theorem dblR_lolen {E : List (List (Int × Int))} {v i : Nat} (h : v < E.length) (hi : i ≤ (gl E v).length) : (gl (dblR E v i) v).length = i := by rw [dblR_lo h]; simp; omega
theorem dblR_hilen {E : List (List (Int × Int))} {v i : Nat} (h : v < E.length) (hi : i ≤ (gl E v).length) : (gl (dblR E v i) (v + E.length)).length = i := by rw [dblR_hi h]; simp; omega
def buDoubleSt9 : Nat → Stat
 | 0 => ⟨[4], [(4, 1)], [], [29], [], []⟩
 | 1 => ⟨[29], [(4, 1)], [], [30], [], []⟩
 | 2 => ⟨[5], [], [], [31], [], []⟩
 | 3 => ⟨[4], [(4, 1)], [], [32], [], []⟩
 | 4 => ⟨[32], [(4, 1)], [], [33], [], []⟩
 | 5 => ⟨[5], [], [], [34], [], []⟩
 | 6 => ⟨[33, 34], [(4, 1)], [], [35], [], []⟩
 | 7 => ⟨[35], [(4, 2)], [], [36], [], []⟩
 | 8 => ⟨[8], [(8, 1)], [], [37], [], []⟩
 | 9 => ⟨[37], [(8, 1)], [], [38], [], []⟩
 | 10 => ⟨[3], [], [], [39], [], []⟩
 | 11 => ⟨[38, 39], [], [], [40], [], []⟩
 | 12 => ⟨[8], [(8, 1)], [], [41], [], []⟩
 | 13 => ⟨[41], [(8, 1)], [], [42], [], []⟩
 | 14 => ⟨[40, 42], [], [], [43], [], []⟩
 | 15 => ⟨[43], [], [], [44], [], []⟩
 | 16 => ⟨[36, 44], [(4, 2), (44, 1)], [4, 44], [45], [(4, 2)], []⟩
 | 17 => ⟨[30, 31], [(4, 1)], [], [46], [], []⟩
 | 18 => ⟨[46, 45], [(4, 2)], [45], [], [(4, 2), (45, 1)], []⟩
 | _ => ⟨[], [], [], [], [], []⟩
def buDoubleSt10 : Nat → Stat
 | 0 => ⟨[4], [(4, 1)], [], [47], [], []⟩
 | 1 => ⟨[47], [(4, 1)], [], [48], [], []⟩
 | 2 => ⟨[5], [], [], [49], [], []⟩
 | 3 => ⟨[3], [], [], [50], [], []⟩
 | 4 => ⟨[49, 50], [], [], [51], [], []⟩
 | 5 => ⟨[4], [(4, 1)], [], [52], [], []⟩
 | 6 => ⟨[52], [(4, 1)], [], [53], [], []⟩
 | 7 => ⟨[5], [], [], [54], [], []⟩
 | 8 => ⟨[3], [], [], [55], [], []⟩
 | 9 => ⟨[54, 55], [], [], [56], [], []⟩
 | 10 => ⟨[53, 56], [(4, 1)], [], [57], [], []⟩
 | 11 => ⟨[57], [(4, 2)], [], [58], [], []⟩
 | 12 => ⟨[8], [(8, 1)], [], [59], [], []⟩
 | 13 => ⟨[59], [], [], [60], [], []⟩
 | 14 => ⟨[58, 60], [(4, 2), (60, 1)], [4, 60], [61], [(4, 2)], []⟩
 | 15 => ⟨[48, 51], [(4, 1)], [], [62], [], []⟩
 | 16 => ⟨[62, 61], [(4, 2)], [61], [], [(4, 2), (61, 1)], []⟩
 | _ => ⟨[], [], [], [], [], []⟩
def buDoubleSt12 : Nat → Stat
 | 0 => ⟨[4], [(4, 1)], [], [64], [], []⟩
 | 1 => ⟨[64], [(4, 1)], [], [65], [], []⟩
 | 2 => ⟨[5], [], [], [66], [], []⟩
 | 3 => ⟨[1], [(1, 1)], [], [67], [], []⟩
 | 4 => ⟨[67], [(1, 1)], [], [68], [], []⟩
 | 5 => ⟨[5], [], [], [69], [], []⟩
 | 6 => ⟨[68, 69], [(1, 1)], [], [70], [], []⟩
 | 7 => ⟨[70], [(1, 2)], [], [71], [], []⟩
 | 8 => ⟨[65, 66], [(4, 1)], [], [72], [], []⟩
 | 9 => ⟨[72, 71], [(4, 2)], [], [], [(4, 2)], []⟩
 | _ => ⟨[], [], [], [], [], []⟩
def buDoubleSt13 : Nat → Stat
 | 0 => ⟨[4], [(4, 1)], [], [73], [], []⟩
 | 1 => ⟨[73], [(4, 1)], [], [74], [], []⟩
 | 2 => ⟨[5], [], [], [75], [], []⟩
 | 3 => ⟨[3], [], [], [76], [], []⟩
 | 4 => ⟨[75, 76], [], [], [77], [], []⟩
 | 5 => ⟨[1], [(1, 1)], [], [78], [], []⟩
 | 6 => ⟨[78], [(1, 1)], [], [79], [], []⟩
 | 7 => ⟨[5], [], [], [80], [], []⟩
 | 8 => ⟨[79, 80], [(1, 1)], [], [81], [], []⟩
 | 9 => ⟨[81], [(1, 2)], [], [82], [], []⟩
 | 10 => ⟨[74, 77], [(4, 1)], [], [83], [], []⟩
 | 11 => ⟨[83, 82], [(4, 2)], [], [], [(4, 2)], []⟩
 | _ => ⟨[], [], [], [], [], []⟩
theorem dfxDbl : type_of% (And.intro tab27 (And.intro @netO.eq_1 (And.intro @rowi (And.intro tab24 (And.intro tab38 (And.intro tab40 (And.intro tab3 (And.intro tab25 (And.intro @if_pos.{1} (And.intro @getDe (And.intro @getDp (And.intro @getDi @trivial)))))))))))) := And.intro tab27 (And.intro @netO.eq_1 (And.intro @rowi (And.intro tab24 (And.intro tab38 (And.intro tab40 (And.intro tab3 (And.intro tab25 (And.intro @if_pos.{1} (And.intro @getDe (And.intro @getDp (And.intro @getDi @trivial)))))))))))
set_option maxRecDepth 8000 in
set_option maxHeartbeats 0 in
theorem buDouble_d (f : NF) (N : Net) (hn : N.ends.length ≤ 300) (hin : N.inputs.length = N.ends.length) (hdg : ∀ v, v < N.ends.length → (gl N.ends v).length ≤ 1000) (hrg : ∀ v i, v < N.ends.length → i < (gl N.ends v).length → -1000 ≤ (gp (gl N.ends v) i).1 ∧ (gp (gl N.ends v) i).1 ≤ 1000) :
 DCalls Try.prog 52 [.agg (netC f N)] (fun r => r = [.own true (netO (dblN N N.ends.length))]) := by
 have h2n : (2 * (N.ends.length : Int)) = ((2 * N.ends.length : Nat) : Int) := by omega
 refine dcalls_of Try.func52 rfl (by rw [Try.ntmps52]; simp) fun w0 => ?_
 rw [Try.ntmps52]
 have dfx := dfxDbl
 simp only [initE, argsL, Arg.av, netC, endss, ints, ends]
 refine dw_seq (dwR fun K hK => ?_)
 repeat refine evF ?_
 refine aops_end (hK _ (dwK [1, 2] ?_))
 clear hK K
 refine dw_seq (dwR fun K hK => ?_)
 repeat refine evF ?_
 refine aops_end (hK _ (dwK [1, 2, 3] ?_))
 clear hK K
 have dfx := And.intro dfx (@h2n)
 refine dw_seq (dwR fun K hK => ?_)
 repeat refine evF ?_
 have dfx := And.intro dfx (@h2n)
 refine clF rfl ⟨rfl, _, rfl⟩ (by omega) (by first | exact may63) (neEmpty_d (2 * N.ends.length) (by omega)) ?_
 rintro _ rfl
 repeat refine evF ?_
 have dfk := @dbl0
 refine aops_end (hK _ (dwKF [1, 2, 3, 4] ?_))
 clear hK K
 refine dw_seq ?_
 refine dw_seq (dwR fun K hK => ?_)
 repeat refine evF ?_
 refine aops_end (hK _ (dwK [1, 2, 3, 4, 16, 17, 18] ?_))
 clear hK K
 refine dw_block ?_
 refine dw_loopP (X := Nat) (fun v => v ≤ N.ends.length) (fun v => [(18, .c (.p (.int .i64 v)))]) (fun v => [((4, 0), ⟨some 27, [.sl true 38 1 ((dblN N v).ends.map (esC 40)), .sl true 3 1 ((dblN N v).ids.map iC), .sl true 3 1 ((dblN N v).inputs.map iC)]⟩)]) (fun v => N.ends.length - v) 0 (Nat.zero_le _) (by first | rfl | (simp only [bunK, C.at, C.put, List.dropLast, List.isPrefixOf, Nat.reduceMul, Nat.reduceLT, Nat.reduceLeDiff, Nat.reduceBEq, Nat.reduceEqDiff, reduceCtorEq, Nat.reduceAdd, ↓reduceIte, Int.natCast_zero] <;> rfl)) ?_
 rintro v hv
 intro E hE
 simp only [bunK, C.at, C.put, List.dropLast, List.isPrefixOf, Nat.reduceMul, Nat.reduceLT, Nat.reduceLeDiff, Nat.reduceBEq, Nat.reduceEqDiff, reduceCtorEq, Nat.reduceAdd, ↓reduceIte] at hE
 subst hE
 refine dw_seq (dwR fun K hK => ?_)
 repeat refine evF ?_
 refine aops_end (hK _ (dwK [1, 2, 3, 4, 16, 17, 18, 19] ?_))
 clear hK K
 refine dw_seq (dwI (fun hb => ?_) (fun hb => ?_))
 ·have hvn : v < N.ends.length := by simp at hb; omega
  refine dw_skip ?_
  show DW _ _ _ _ _
  refine dw_seq (dw_block ?_)
  refine dw_seq (dwR fun K hK => ?_)
  repeat refine evF ?_
  refine aops_end (hK _ (dwK [1, 2, 3, 4, 5, 6, 16, 17, 18] ?_))
  clear hK K
  refine dw_seq ?_
  refine dw_seq (dwR fun K hK => ?_)
  repeat refine evF ?_
  refine aops_end (hK _ (dwK [1, 2, 3, 4, 5, 16, 17, 18, 23, 24, 25] ?_))
  clear hK K
  refine dw_block ?_
  refine dw_loopP (X := Nat) (fun i => i ≤ (gl N.ends v).length) (fun i => [(25, .c (.p (.int .i64 i)))]) (fun i => [((4, 0), ⟨some 27, [.sl true 38 1 ((dblR N.ends v i).map (esC 40)), .sl true 3 1 ((dblN N v).ids.map iC), .sl true 3 1 ((dblN N v).inputs.map iC)]⟩)]) (fun i => (gl N.ends v).length - i) 0 (Nat.zero_le _) (by first | rfl | (simp only [bunK, C.at, C.put, List.dropLast, List.isPrefixOf, Nat.reduceMul, Nat.reduceLT, Nat.reduceLeDiff, Nat.reduceBEq, Nat.reduceEqDiff, reduceCtorEq, Nat.reduceAdd, ↓reduceIte, Int.natCast_zero] <;> rfl)) ?_
  rintro i hi
  intro E hE
  simp only [bunK, C.at, C.put, List.dropLast, List.isPrefixOf, Nat.reduceMul, Nat.reduceLT, Nat.reduceLeDiff, Nat.reduceBEq, Nat.reduceEqDiff, reduceCtorEq, Nat.reduceAdd, ↓reduceIte] at hE
  subst hE
  have hdv := hdg v hvn
  refine dw_seq (dwR fun K hK => ?_)
  repeat refine evF ?_
  refine aops_end (hK _ (dwK [1, 2, 3, 4, 5, 16, 17, 18, 23, 24, 25, 26] ?_))
  clear hK K
  refine dw_seq (dwI (fun hb => ?_) (fun hb => ?_))
  ·have hil : i < (gl N.ends v).length := by simp at hb; omega
   have hr := hrg v i hvn hil
   have hl1 := dblR_len N.ends v i
   have hlo := dblR_lolen hvn hi
   have hhi := dblR_hilen hvn hi
   refine dw_skip ?_
   show DW _ _ _ _ _
   refine dw_seq (dw_block ?_)
   refine dw_seq (dwR fun K hK => ?_)
   repeat refine evF ?_
   refine aops_end (hK _ (dwK [1, 2, 3, 4, 5, 8, 16, 17, 18, 23, 24, 25] ?_))
   clear hK K
   have dfx := And.intro dfx (And.intro @buDoubleSt9.eq_def (And.intro @rowes (And.intro @rowesm (And.intro @hl1 (And.intro @hlo (And.intro @List.length_append.{0} @List.length_modify.{0}))))))
   refine dw_seq (dwRD buDoubleSt9 (fun j r => match j with | _ => True) fun K hK => ?_)
   repeat refine dvF ?_
   have dfk := And.intro @snoc_eC @es_put3
   refine dops_end (hK _ (dwKF [1, 2, 3, 4, 5, 8, 16, 17, 18, 23, 24, 25] ?_))
   clear hK K
   have hnx := dbl_next hvn hil rfl
   generalize hx : v + N.ends.length = x at *
   have hx' : ((v : Int) + (N.ends.length : Int)) = (x : Int) := by omega
   have hls : ∀ A, x < ((dblR N.ends v i).set v A).length := fun A => by rw [List.length_set, hl1]; omega
   have hrw : ∀ A t2, rowC (((dblR N.ends v i).set v A).map (esC t2)) x 0 = some (.sl true t2 2 ((gl (dblR N.ends v i) x).map eC)) := fun A t2 => by rw [rowes (hls A), gl_set_ne (by omega)]
   have hrm : ∀ A t2 y, rowC ((((dblR N.ends v i).set v A).map (esC t2)).modify x fun row => row.modify 0 fun _ => y) x 0 = some y := fun A t2 y => rowesm (hls A)
   have dfx := And.intro dfx (And.intro @buDoubleSt10.eq_def (And.intro @hx' (And.intro @hrw (And.intro @hrm (And.intro @hl1 (And.intro @hhi (And.intro @List.length_append.{0} (And.intro @List.length_modify.{0} @List.length_set.{0}))))))))
   refine dwRD buDoubleSt10 (fun j r => match j with | _ => True) fun K hK => ?_
   repeat refine dvF ?_
   have dfk := And.intro @snoc_eC (And.intro @es_put3 (And.intro @gl_set_ne @hnx))
   refine dops_end (hK _ (dwKF [1, 2, 3, 4, 5, 16, 17, 18, 23, 24, 25] ?_))
   clear hK K
   refine dwR fun K hK => ?_
   repeat refine evF ?_
   have dfk := @castS
   refine aops_end (hK _ ?_)
   clear hK K
   show ∃ x, _ ∧ _ ∧ Weak _ _
   refine ⟨i + 1, ?_, ?_, weakFk [1, 2, 3, 4, 5, 16, 17, 18, 23, 24, 25]⟩
   ·omega
   ·omega
  ·have hil : i = (gl N.ends v).length := by simp at hb; omega
   have hl2 : (dblN N v).inputs.length = 2 * N.ends.length := dblI_len N v
   have hfull : dblR N.ends v i = (dblN N (v + 1)).ends := by rw [hil]; exact dblR_full
   have hnx := dblI_next hvn rfl
   have hids : (dblN N v).ids = (dblN N (v + 1)).ids := rfl
   refine dw_leave3 ?_
   refine dw_keep [1, 2, 3, 4, 5, 16, 17, 18] (by simp only [bunK, C.at, C.put, List.dropLast, List.isPrefixOf, Nat.reduceMul, Nat.reduceLT, Nat.reduceLeDiff, Nat.reduceBEq, Nat.reduceEqDiff, reduceCtorEq, Nat.reduceAdd, ↓reduceIte, hfull]; exact rfl) ?_
   have dfx := And.intro dfx (@buDoubleSt12.eq_def)
   refine dw_seq (dwRD buDoubleSt12 (fun j r => match j with | _ => True) fun K hK => ?_)
   repeat refine dvF ?_
   have dfk := @puti
   refine dops_end (hK _ (dwKF [1, 2, 3, 4, 5, 16, 17, 18] ?_))
   clear hK K
   generalize hx : v + N.ends.length = x at *
   have hx' : ((v : Int) + (N.ends.length : Int)) = (x : Int) := by omega
   have hri : ∀ c, rowC (((dblN N v).inputs.set v c).map iC) x 0 = some (.p (.int .i64 (gi ((dblN N v).inputs.set v c) x))) := fun c => rowi (by rw [List.length_set, hl2]; omega)
   have dfx := And.intro dfx (And.intro @buDoubleSt13.eq_def (And.intro @hx' (And.intro @hri @List.length_set.{0})))
   refine dwRD buDoubleSt13 (fun j r => match j with | _ => True) fun K hK => ?_
   repeat refine dvF ?_
   have dfk := And.intro @puti (And.intro @hnx @hids)
   refine dops_end (hK _ (dwKF [1, 2, 3, 4, 16, 17, 18] ?_))
   clear hK K
   refine dwR fun K hK => ?_
   repeat refine evF ?_
   have dfk := @castS
   refine aops_end (hK _ ?_)
   clear hK K
   show ∃ x, _ ∧ _ ∧ Weak _ _
   refine ⟨v + 1, ?_, ?_, weakFk [1, 2, 3, 4, 16, 17, 18]⟩
   ·omega
   ·omega
 ·have hvn : v = N.ends.length := by simp at hb; omega
  subst hvn
  refine dw_leave3 ?_
  refine dw_keep [2, 4] (by simp only [bunK, C.at, C.put, List.dropLast, List.isPrefixOf, Nat.reduceMul, Nat.reduceLT, Nat.reduceLeDiff, Nat.reduceBEq, Nat.reduceEqDiff, reduceCtorEq, Nat.reduceAdd, ↓reduceIte]; exact rfl) ?_
  refine dw_seq (dwR fun K hK => ?_)
  repeat refine evF ?_
  refine aops_end (hK _ (dwK [2] ?_))
  clear hK K
  exact dw_ret (fin_ret Try.results52 (.one (.cell 2 _ _ _ _ rfl rfl tab27 rfl rfl (netO_owned _))) (by decide) rfl)
end
end Go.Proofs.Ytlaahgdikiiahaa
