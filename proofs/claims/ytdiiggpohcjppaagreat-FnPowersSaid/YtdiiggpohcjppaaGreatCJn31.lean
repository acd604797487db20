/- Parts of the proof, joined: Den, Dpo, Dun. -/
import Derived.Test.YtdiiggpohcjppaaGreatCJn22
import Derived.Test.YtdiiggpohcjppaaGreatCJn29
import Derived.Test.YtdiiggpohcjppaaGreatCJn20
import Derived.Test.YtdiiggpohcjppaaGreatCJn6
set_option linter.unusedSimpArgs false
set_option linter.unusedVariables false
namespace Go.Proofs.YtdiiggpohcjppaaGreat
section
set_option maxHeartbeats 0
set_option maxRecDepth 8000
open Go Go.RowKit
theorem qv (f : NF) (N : Net) (hs : fp N) : DCalls Tryz.prog 188 [.agg (bv f N)] (fun r => r = [.own true (netO N)]) := xk fun w vs h1 h2 => by
 obtain ⟨u, rfl, g1⟩ := Bx h1 h2
 exact Oc u N w (Sw g1) hs
def fy (N : Net) (v m : Nat) : List Int := ((gl N.ends v).take m).map Prod.fst
theorem Do {N : Net} {v m : Nat} (h : m < (gl N.ends v).length) : fy N v (m + 1) = fy N v m ++ [(gp (gl N.ends v) m).1] := by
 unfold fy
 rw [List.take_add_one, List.getElem?_eq_getElem h, ib h, List.map_append]
 rfl
theorem ui {N : Net} {v m : Nat} (h : m ≤ (gl N.ends v).length) : (fy N v m).length = m := by simp [fy]; omega
def zBDen1 := PLift.up (And.intro an (And.intro @netO.eq_1 (And.intro @b7 (And.intro bm (And.intro bj (And.intro bn (And.intro cl (And.intro bb (And.intro @if_pos.{1} (And.intro @b4 (And.intro @b0 (And.intro @br @trivial))))))))))))
theorem Km : type_of% zBDen1.down := zBDen1.down
theorem Hg (f : NF) (N : Net) (v : Nat) (hv : v < N.ends.length) (hd : (gl N.ends v).length ≤ 262144) : DCalls Tryz.prog 120 [.agg (bv f N), .c (.p (.int .i64 v))] (fun r => r = [.own false [.sl true 3 1 ((fy N v (gl N.ends v).length).map iC)]]) := by
 refine ao Tryz.func120 rfl (by rw [Tryz.ntmps120]; simp) fun w0 => ?_
 rw [Tryz.ntmps120]
 have dfx := Km
 simp only [ce, be, Arg.av, bv, cm, ints, ends]
 refine ab (dwR fun K hK => ?_)
 repeat refine evF ?_
 refine aa (hK _ (dwK [1, 2] ?_))
 clear hK K
 refine ab (dwR fun K hK => ?_)
 repeat refine evF ?_
 refine aa (hK _ (dwK [1, 2, 5] ?_))
 clear hK K
 refine ab ?_
 refine ab (dwR fun K hK => ?_)
 repeat refine evF ?_
 refine aa (hK _ (dwK [5, 12, 13, 14] ?_))
 clear hK K
 refine ae ?_
 refine jw 5 3 1 (by decide) (by simp only [ac, C.at, C.put, List.dropLast, List.isPrefixOf, simprocAttr]) [5, 12, 13, 14] (by simp only [ac, C.at, C.put, List.dropLast, List.isPrefixOf, simprocAttr]; exact rfl) ?_
 refine ax (X := Nat) (fun k => k ≤ (gl N.ends v).length) (fun k => [(14, .c (.p (.int .i64 k)))]) (fun k => [((5, 0), ⟨none, [.sl true 3 1 ((fy N v k).map iC)]⟩)]) (fun k => (gl N.ends v).length - k) 0 (Nat.zero_le _) (by first | rfl | (simp only [ac, C.at, C.put, List.dropLast, List.isPrefixOf, simprocAttr, Int.natCast_zero] <;> rfl)) ?_
 rintro k hk
 intro E hE
 simp only [ac, C.at, C.put, List.dropLast, List.isPrefixOf, simprocAttr] at hE
 subst hE
 have hnl := ui hk
 refine ab (dwR fun K hK => ?_)
 repeat refine evF ?_
 refine aa (hK _ (dwK [5, 12, 13, 14, 15] ?_))
 clear hK K
 refine ab (dwI (fun hb => ?_) (fun hb => ?_))
 ·have hk1 : k < (gl N.ends v).length := by simpa using hb
  have hns := Do hk1
  refine ai ?_
  show DW _ _ _ _ _
  refine ab (ae ?_)
  refine ab (dwR fun K hK => ?_)
  repeat refine evF ?_
  refine aa (hK _ (dwK [5, 7, 12, 13, 14] ?_))
  clear hK K
  refine dwR fun K hK => ?_
  repeat refine evF ?_
  have dfk := @fo
  refine aa (hK _ (a8 [5, 12, 13, 14] ?_))
  clear hK K
  refine dwR fun K hK => ?_
  repeat refine evF ?_
  have dfk := And.intro @cd @hns
  refine aa (hK _ ?_)
  clear hK K
  show ∃ x, _ ∧ _ ∧ Weak _ _
  refine ⟨k + 1, ?_, ?_, ay [5, 12, 13, 14]⟩
  ·omega
  ·omega
 ·have hk2 : k = (gl N.ends v).length := by
   have : ¬ k < (gl N.ends v).length := by simpa using hb
   omega
  refine ap ?_
  refine dwK [5] ?_
  refine ab (dwR fun K hK => ?_)
  repeat refine evF ?_
  refine aa (hK _ (dwK [4] ?_))
  clear hK K
  exact ak (aq Tryz.results120 (.one (.own _ _ _ _ rfl rfl (own1 (cq _ _)))) (by decide) (by rw [hk2]))
def neJoinSt6 : Nat → Stat
 | 0 => ⟨[7], [(7, 1)], [], [29], [], []⟩
 | 1 => ⟨[29], [(7, 1)], [], [30], [], []⟩
 | 2 => ⟨[1], [], [], [31], [], []⟩
 | 3 => ⟨[7], [(7, 1)], [], [32], [], []⟩
 | 4 => ⟨[32], [(7, 1)], [], [33], [], []⟩
 | 5 => ⟨[1], [], [], [34], [], []⟩
 | 6 => ⟨[33, 34], [(7, 1)], [], [35], [], []⟩
 | 7 => ⟨[35], [(7, 2)], [], [36], [], []⟩
 | 8 => ⟨[2], [], [], [37], [], []⟩
 | 9 => ⟨[9], [], [], [38], [], []⟩
 | 10 => ⟨[37, 38], [], [], [39], [], []⟩
 | 11 => ⟨[39], [], [], [40], [], []⟩
 | 12 => ⟨[36, 40], [(7, 2), (40, 1)], [7, 40], [41], [(7, 2)], []⟩
 | 13 => ⟨[30, 31], [(7, 1)], [], [42], [], []⟩
 | 14 => ⟨[42, 41], [(7, 2)], [41], [], [(7, 2), (41, 1)], []⟩
 | _ => ⟨[], [], [], [], [], []⟩
def neJoinSt7 : Nat → Stat
 | 0 => ⟨[7], [(7, 1)], [], [43], [], []⟩
 | 1 => ⟨[43], [(7, 1)], [], [44], [], []⟩
 | 2 => ⟨[2], [], [], [45], [], []⟩
 | 3 => ⟨[7], [(7, 1)], [], [46], [], []⟩
 | 4 => ⟨[46], [(7, 1)], [], [47], [], []⟩
 | 5 => ⟨[2], [], [], [48], [], []⟩
 | 6 => ⟨[47, 48], [(7, 1)], [], [49], [], []⟩
 | 7 => ⟨[49], [(7, 2)], [], [50], [], []⟩
 | 8 => ⟨[1], [], [], [51], [], []⟩
 | 9 => ⟨[8], [], [], [52], [], []⟩
 | 10 => ⟨[51, 52], [], [], [53], [], []⟩
 | 11 => ⟨[53], [], [], [54], [], []⟩
 | 12 => ⟨[50, 54], [(7, 2), (54, 1)], [7, 54], [55], [(7, 2)], []⟩
 | 13 => ⟨[44, 45], [(7, 1)], [], [56], [], []⟩
 | 14 => ⟨[56, 55], [(7, 2)], [55], [], [(7, 2), (55, 1)], []⟩
 | _ => ⟨[], [], [], [], [], []⟩
theorem Q7 (f : NF) (N : Net) (v x : Nat) (hs : fp N) (hv : v < N.ends.length) (hx : x < N.ends.length) : DCalls Tryz.prog 143 [.agg (bv f N), .c (.p (.int .i64 v)), .c (.p (.int .i64 x))] (fun r => r = [.own true (netO (mt N v x))]) := by
 obtain ⟨hs1, hs2, -, -⟩ := id hs
 have hdv := hs2 v hv
 have hdx := hs2 x hx
 obtain ⟨j, hj⟩ : ∃ j, j = (gl N.ends x).length + (if v = x then 1 else 0) := ⟨_, rfl⟩
 refine ao Tryz.func143 rfl (by rw [Tryz.ntmps143]; simp) fun w0 => ?_
 rw [Tryz.ntmps143]
 have dfx := Km
 simp only [ce, be, Arg.av, bv, cm, ints, ends]
 refine ab (dwR fun K hK => ?_)
 repeat refine evF ?_
 refine aa (hK _ (dwK [1, 2, 3, 6] ?_))
 clear hK K
 refine ab (dwR fun K hK => ?_)
 repeat refine evF ?_
 refine clF rfl ⟨rfl, _, rfl⟩ (by omega) (by first | exact wu) (qv ⟨false, f.t1, f.o2, f.t2, false, f.t3, false, f.t4⟩ N hs) ?_
 rintro _ rfl
 repeat refine evF ?_
 refine aa (hK _ (dwK [1, 2, 6, 7] ?_))
 clear hK K
 have dfx := And.intro dfx (@dw)
 refine ab (dwR fun K hK => ?_)
 repeat refine evF ?_
 refine aa (hK _ (dwK [1, 2, 6, 7, 8] ?_))
 clear hK K
 have dfx := And.intro dfx (@dw)
 refine ab (dwR fun K hK => ?_)
 repeat refine evF ?_
 refine aa (hK _ (dwK [1, 2, 6, 7, 8, 9] ?_))
 clear hK K
 refine q8 (X := Unit) (fun z => True) (fun z => mkE 58 [(1, .c (.p (.int .i64 v))), (2, .c (.p (.int .i64 x))), (6, .box), (7, .box), (8, .c (.p (.int .i64 (gl N.ends v).length))), (9, .c (.p (.int .i64 j)))] [((6, 0), ⟨some 27, [.p (.slice none 0 0), .p (.slice none 0 0), .p (.slice none 0 0)]⟩), ((7, 0), ⟨some 27, netO N⟩)]) ?_ ?_
 ·refine ab (dwR fun K hK => ?_)
  repeat refine evF ?_
  refine aa (hK _ (dwK [1, 2, 6, 7, 8, 9, 26] ?_))
  clear hK K
  refine dwI (fun hb => ?_) (fun hb => ?_)
  ·have hj1 : ((gl N.ends x).length : Int) + 1 = j := by
    have : v = x := by simp at hb; omega
    rw [hj, if_pos this]; rfl
   refine dwR fun K hK => ?_
   repeat refine evF ?_
   refine aa (hK _ ?_)
   clear hK K
   show ∃ x, _ ∧ Weak _ _
   refine ⟨⟨⟩, ?_, (cp _ [1, 2, 6, 7, 8, 9]).trans (Weak.of_eq (by simp only [ac, C.at, C.put, List.dropLast, List.isPrefixOf, simprocAttr , hj1] <;> exact rfl))⟩
   trivial
  ·have hj1 : ((gl N.ends x).length : Int) = j := by
    have : ¬ v = x := by simp at hb; omega
    rw [hj, if_neg this]; rfl
   rw [hj1]
   refine ai ?_
   show ∃ x, _ ∧ Weak _ _
   refine ⟨⟨⟩, ?_, (cp _ [1, 2, 6, 7, 8, 9]).trans (Weak.of_eq (by simp only [ac, C.at, C.put, List.dropLast, List.isPrefixOf, simprocAttr] <;> exact rfl))⟩
   trivial
 ·rintro ⟨⟩ -
  obtain ⟨E1, hE1⟩ : ∃ E1, E1 = N.ends.set v (gl N.ends v ++ [((x : Int), (j : Int))]) := ⟨_, rfl⟩
  have hl1 : E1.length = N.ends.length := by rw [hE1, List.length_set]
  have hd1 : (gl E1 x).length ≤ 262145 := by
   rw [hE1, jd hv]
   split
   ·rename_i h; subst h; simp; omega
   ·omega
  have hjn : mt N v x = ⟨E1.set x (gl E1 x ++ [((v : Int), ((gl N.ends v).length : Int))]), N.ids, N.inputs⟩ := by rw [hE1, hj]; rfl
  have dfx := And.intro dfx (And.intro @neJoinSt6.eq_def (And.intro @dw (And.intro @ij (And.intro @List.length_append.{0} @List.length_modify.{0}))))
  refine ab (gk neJoinSt6 (fun j r => match j with | _ => True) fun K hK => ?_)
  repeat refine dvF ?_
  have dfk := And.intro @ni (And.intro @q7 (Eq.symm hE1))
  refine bt (hK _ (a8 [1, 2, 6, 7, 8] ?_))
  clear hK K
  have dfx := And.intro dfx (And.intro @neJoinSt7.eq_def (And.intro @dw (And.intro @ij (And.intro @List.length_append.{0} (And.intro @List.length_modify.{0} @hl1)))))
  refine ab (gk neJoinSt7 (fun j r => match j with | _ => True) fun K hK => ?_)
  repeat refine dvF ?_
  have dfk := And.intro @ni @q7
  refine bt (hK _ (a8 [6, 7] ?_))
  clear hK K
  refine ab (dwR fun K hK => ?_)
  repeat refine evF ?_
  refine aa (hK _ (dwK [6] ?_))
  clear hK K
  exact ak (aq Tryz.results143 (.one (.cell 6 _ _ _ _ rfl rfl an rfl rfl (am ⟨_, _, _⟩))) (by decide) (by rw [hjn]; rfl))
def neStubSt2 : Nat → Stat
 | 0 => ⟨[5], [(5, 1)], [], [8], [], []⟩
 | 1 => ⟨[8], [(5, 1)], [], [9], [], []⟩
 | 2 => ⟨[1], [], [], [10], [], []⟩
 | 3 => ⟨[5], [(5, 1)], [], [11], [], []⟩
 | 4 => ⟨[11], [(5, 1)], [], [12], [], []⟩
 | 5 => ⟨[1], [], [], [13], [], []⟩
 | 6 => ⟨[12, 13], [(5, 1)], [], [14], [], []⟩
 | 7 => ⟨[14], [(5, 2)], [], [15], [], []⟩
 | 8 => ⟨[1], [], [], [16], [], []⟩
 | 9 => ⟨[5], [(5, 1)], [], [17], [], []⟩
 | 10 => ⟨[17], [(5, 1)], [], [18], [], []⟩
 | 11 => ⟨[1], [], [], [19], [], []⟩
 | 12 => ⟨[18, 19], [(5, 1)], [], [20], [], []⟩
 | 13 => ⟨[20], [(5, 2)], [], [21], [], []⟩
 | 14 => ⟨[21], [(5, 2)], [], [22], [], []⟩
 | 15 => ⟨[16, 22], [], [], [23], [], []⟩
 | 16 => ⟨[23], [], [], [24], [], []⟩
 | 17 => ⟨[15, 24], [(5, 2), (24, 1)], [5, 24], [25], [(5, 2)], []⟩
 | 18 => ⟨[9, 10], [(5, 1)], [], [26], [], []⟩
 | 19 => ⟨[26, 25], [(5, 2)], [25], [], [(5, 2), (25, 1)], []⟩
 | _ => ⟨[], [], [], [], [], []⟩
theorem Q5 (f : NF) (N : Net) (v : Nat) (hs : fp N) (hv : v < N.ends.length) : DCalls Tryz.prog 142 [.agg (bv f N), .c (.p (.int .i64 v))] (fun r => r = [.own true (netO (zt N v))]) := by
 obtain ⟨hs1, hs2, -, -⟩ := id hs
 have hdv := hs2 v hv
 refine ao Tryz.func142 rfl (by rw [Tryz.ntmps142]; simp) fun w0 => ?_
 rw [Tryz.ntmps142]
 have dfx := Km
 simp only [ce, be, Arg.av, bv, cm, ints, ends]
 refine ab (dwR fun K hK => ?_)
 repeat refine evF ?_
 refine aa (hK _ (dwK [1, 2, 4] ?_))
 clear hK K
 refine ab (dwR fun K hK => ?_)
 repeat refine evF ?_
 refine clF rfl ⟨rfl, _, rfl⟩ (by omega) (by first | exact wu) (qv ⟨false, f.t1, f.o2, f.t2, false, f.t3, false, f.t4⟩ N hs) ?_
 rintro _ rfl
 repeat refine evF ?_
 refine aa (hK _ (dwK [1, 4, 5] ?_))
 clear hK K
 have dfx := And.intro dfx (And.intro @neStubSt2.eq_def (And.intro @dw (And.intro @ij (And.intro @List.length_append.{0} @List.length_modify.{0}))))
 refine ab (gk neStubSt2 (fun j r => match j with | _ => True) fun K hK => ?_)
 repeat refine dvF ?_
 have dfk := And.intro @ni @q7
 refine bt (hK _ (a8 [4, 5] ?_))
 clear hK K
 refine ab (dwR fun K hK => ?_)
 repeat refine evF ?_
 refine aa (hK _ (dwK [4] ?_))
 clear hK K
 exact ak (aq Tryz.results142 (.one (.cell 4 _ _ _ _ rfl rfl an rfl rfl (am ⟨_, _, _⟩))) (by decide) rfl)
end
section
open Go Go.RowKit
theorem z8 {es : List (Int × Int)} {k : Nat} (h : k < es.length) : b8 (es.map eC) k 0 = some (.p (.int .i64 (gp es k).1)) := bh.2 ⟨_, by rw [List.getElem?_map, List.getElem?_eq_getElem h]; rfl, by rw [ib h]; rfl⟩
theorem z7 {es : List (Int × Int)} {k : Nat} (h : k < es.length) : b8 (es.map eC) k 1 = some (.p (.int .i64 (gp es k).2)) := bh.2 ⟨_, by rw [List.getElem?_map, List.getElem?_eq_getElem h]; rfl, by rw [ib h]; rfl⟩
theorem Tu (es : List (Int × Int)) (j : Nat) (x y : Int) : (((es.map eC).modify j fun row => row.modify 0 fun _ => C.p (.int .i64 x)).modify j fun row => row.modify 1 fun _ => C.p (.int .i64 y)) = (es.set j (x, y)).map eC := by
 apply List.ext_getElem?
 intro i
 simp only [List.getElem?_modify, List.getElem?_map, List.getElem?_set]
 by_cases h : j = i
 ·subst h
  by_cases hk : j < es.length
  ·simp [List.getElem?_eq_getElem hk, hk, eC]
  ·simp [List.getElem?_eq_none (Nat.le_of_not_lt hk), hk]
 ·simp [h]
theorem xd {t2 : TypeId} {ess : List (List (Int × Int))} {a j : Nat} {x y : Int} : (((ess.map (esC t2)).modify a fun row => row.modify 0 ((C.p (.int .i64 x)).put [(j, 0)])).modify a fun row => row.modify 0 ((C.p (.int .i64 y)).put [(j, 1)])) = (mi ess a j (x, y)).map (esC t2) := by
 unfold mi
 apply List.ext_getElem?
 intro i
 simp only [List.getElem?_modify, List.getElem?_map, List.getElem?_set]
 by_cases h : a = i
 ·subst h
  by_cases hk : a < ess.length
  ·simp only [List.getElem?_eq_getElem hk, hk, if_true, Option.map_some, esC, ge hk]
   rw [← Tu]
   rfl
  ·simp [List.getElem?_eq_none (Nat.le_of_not_lt hk), hk]
 ·simp [h]
def nePortsSt7 : Nat → Stat
 | 0 => ⟨[7], [(7, 1)], [], [33], [], []⟩
 | 1 => ⟨[33], [(7, 1)], [], [34], [], []⟩
 | 2 => ⟨[9], [(9, 1)], [], [35], [], []⟩
 | 3 => ⟨[35], [(9, 1)], [], [36], [], []⟩
 | 4 => ⟨[34, 36], [(7, 1)], [], [37], [], []⟩
 | 5 => ⟨[37], [(7, 2)], [], [38], [], []⟩
 | 6 => ⟨[9], [(9, 1)], [], [39], [], []⟩
 | 7 => ⟨[39], [(9, 1)], [], [40], [], []⟩
 | 8 => ⟨[1], [], [], [41], [], []⟩
 | 9 => ⟨[2], [], [], [42], [], []⟩
 | 10 => ⟨[8], [], [], [43], [], []⟩
 | 11 => ⟨[42, 43], [], [], [44], [], []⟩
 | 12 => ⟨[44], [], [], [45], [], []⟩
 | 13 => ⟨[41, 45], [], [], [46], [], []⟩
 | 14 => ⟨[38, 40], [(7, 2)], [], [47], [], []⟩
 | 15 => ⟨[47, 46], [(7, 3)], [], [], [(7, 3)], []⟩
 | _ => ⟨[], [], [], [], [], []⟩
def nePortsSt8 : Nat → Stat
 | 0 => ⟨[7], [(7, 1)], [], [48], [], []⟩
 | 1 => ⟨[48], [(7, 1)], [], [49], [], []⟩
 | 2 => ⟨[1], [], [], [50], [], []⟩
 | 3 => ⟨[49, 50], [(7, 1)], [], [51], [], []⟩
 | 4 => ⟨[51], [(7, 2)], [], [52], [], []⟩
 | 5 => ⟨[2], [], [], [53], [], []⟩
 | 6 => ⟨[8], [], [], [54], [], []⟩
 | 7 => ⟨[53, 54], [], [], [55], [], []⟩
 | 8 => ⟨[55], [], [], [56], [], []⟩
 | 9 => ⟨[9], [(9, 1)], [], [57], [], []⟩
 | 10 => ⟨[52, 56], [(7, 2)], [], [58], [], []⟩
 | 11 => ⟨[58, 57], [(7, 3)], [9], [], [(7, 3), (9, 1)], []⟩
 | _ => ⟨[], [], [], [], [], []⟩
def zBDpo1 := PLift.up (And.intro an (And.intro @netO.eq_1 (And.intro @b7 (And.intro bm (And.intro bj (And.intro bn (And.intro cl (And.intro bb (And.intro @if_pos.{1} (And.intro @b4 (And.intro @b0 (And.intro @br @trivial))))))))))))
theorem Xo : type_of% zBDpo1.down := zBDpo1.down
set_option maxRecDepth 8000 in
set_option maxHeartbeats 0 in
theorem Ob (f : NF) (o : Bool) (t : TypeId) (N : Net) (v : Nat) (π : List Int) (hs : fp N) (hv : v < N.ends.length) (hsym : Sym N.ends) (hperm : π.Perm (et (dg N.ends v))) :
 DCalls Tryz.prog 189 [.agg (bv f N), .c (.p (.int .i64 v)), .c (ints o t π)] (fun r => r = [.own true (netO (Jh N v π))]) := by
 obtain ⟨hs1, hs2, -, -⟩ := id hs
 have hdv := hs2 v hv
 have hpl : π.length = dg N.ends v := by rw [hperm.length_eq]; simp [et]
 have hdg : dg N.ends v = (gl N.ends v).length := rfl
 refine ao Tryz.func189 rfl (by rw [Tryz.ntmps189]; simp) fun w0 => ?_
 rw [Tryz.ntmps189]
 have dfx := Xo
 simp only [ce, be, Arg.av, bv, cm, ints, ends]
 refine ab (dwR fun K hK => ?_)
 repeat refine evF ?_
 refine aa (hK _ (dwK [1, 2, 3, 6] ?_))
 clear hK K
 refine ab (dwR fun K hK => ?_)
 repeat refine evF ?_
 refine clF rfl ⟨rfl, _, rfl⟩ (by omega) (by first | exact wu) (qv ⟨false, f.t1, f.o2, f.t2, false, f.t3, false, f.t4⟩ N hs) ?_
 rintro _ rfl
 repeat refine evF ?_
 refine aa (hK _ (dwK [1, 2, 3, 6, 7] ?_))
 clear hK K
 refine ab ?_
 refine ab (dwR fun K hK => ?_)
 repeat refine evF ?_
 refine aa (hK _ (dwK [1, 2, 6, 7, 16, 17, 18] ?_))
 clear hK K
 refine ae ?_
 refine ax (X := Nat) (fun k => k ≤ (gl N.ends v).length) (fun k => [(18, .c (.p (.int .i64 k)))]) (fun k => [((7, 0), ⟨some 27, [.sl true 82 1 ((dv N.ends v π k).map (esC 35)), .sl true 3 1 (N.ids.map iC), .sl true 3 1 (N.inputs.map iC)]⟩)]) (fun k => (gl N.ends v).length - k) 0 (Nat.zero_le _) (by first | rfl | (simp only [ac, C.at, C.put, List.dropLast, List.isPrefixOf, simprocAttr, Int.natCast_zero] <;> rfl)) ?_
 rintro k hk
 intro E hE
 simp only [ac, C.at, C.put, List.dropLast, List.isPrefixOf, simprocAttr] at hE
 subst hE
 obtain ⟨hKl, hKd, -, -⟩ := se hsym hv hperm k hk
 refine ab (dwR fun K hK => ?_)
 repeat refine evF ?_
 refine aa (hK _ (dwK [1, 2, 6, 7, 16, 17, 18, 19] ?_))
 clear hK K
 refine ab (dwI (fun hb => ?_) (fun hb => ?_))
 ·have hk1 : k < (gl N.ends v).length := by simpa using hb
  obtain ⟨b, j, hbj, hbl, hjl, -⟩ := hsym v k hv hk1
  obtain ⟨q, hq, hql⟩ := ll hperm (i := k) (by omega)
  have hKv : (gl (dv N.ends v π k) v).length = (gl N.ends v).length := hKd v
  have hKb : (gl (dv N.ends v π k) b).length = (gl N.ends b).length := hKd b
  have hjl' : j < (gl N.ends b).length := hjl
  have hbj : gp (gl N.ends v) k = ((b : Int), (j : Int)) := hbj
  refine ai ?_
  show DW _ _ _ _ _
  refine ab (ae ?_)
  have dfx := And.intro dfx (@hbj)
  refine ab (dwR fun K hK => ?_)
  repeat refine evF ?_
  refine aa (hK _ (dwK [1, 2, 6, 7, 8, 9, 16, 17, 18] ?_))
  clear hK K
  refine ab ?_
  refine ab (dwR fun K hK => ?_)
  repeat refine evF ?_
  refine aa (hK _ (dwK [1, 2, 6, 7, 8, 9, 16, 17, 18, 26] ?_))
  clear hK K
  refine dwI (fun hb => ?_) (fun hb => ?_)
  ·have hbv : b = v := by simp at hb; omega
   subst hbv
   refine dwR fun K hK => ?_
   repeat refine evF ?_
   refine aa (hK _ (dwK [1, 2, 6, 7, 8, 9, 16, 17, 18] ?_))
   clear hK K
   have dfx := And.intro dfx (And.intro @nePortsSt8.eq_def (And.intro @dw (And.intro @z8 (And.intro @z7 (And.intro @hKv @hq)))))
   refine gk nePortsSt8 (fun j r => match j with | _ => True) fun K hK => ?_
   repeat refine dvF ?_
   have hst : mi (dv N.ends b π k) b q ((b : Int), gi π j) = dv N.ends b π (k + 1) := by
    show _ = fi N.ends b π (dv N.ends b π k) k
    unfold fi pt
    rw [hbj, hq]
    simp
   have dfk := And.intro @xd @hst
   refine bt (hK _ (a8 [1, 2, 6, 7, 16, 17, 18] ?_))
   clear hK K
   refine dwR fun K hK => ?_
   repeat refine evF ?_
   have dfk := @cd
   refine aa (hK _ ?_)
   clear hK K
   show ∃ x, _ ∧ _ ∧ Weak _ _
   refine ⟨k + 1, ?_, ?_, ay [1, 2, 6, 7, 16, 17, 18]⟩
   ·omega
   ·omega
  ·have hbv : (b : Int) ≠ (v : Int) := by simpa using hb
   have hst : mi (mi (dv N.ends v π k) b j ((v : Int), gi π k)) v q ((b : Int), (j : Int)) = dv N.ends v π (k + 1) := by
    show _ = fi N.ends v π (dv N.ends v π k) k
    unfold fi pt
    rw [hbj, hq]
    simp [hbv]
   obtain ⟨E1, hE1⟩ : ∃ E1, E1 = mi (dv N.ends v π k) b j ((v : Int), gi π k) := ⟨_, rfl⟩
   have hl1 : E1.length = N.ends.length := by rw [hE1, mh, hKl]
   have hd1 : (gl E1 v).length = (gl N.ends v).length := by
    have := tx (ess := dv N.ends v π k) (a := b) (j := j) (p := ((v : Int), gi π k)) (by omega) v
    rw [← hE1] at this
    exact this.trans (hKd v)
   have dfx := And.intro dfx (And.intro @nePortsSt7.eq_def (And.intro @dw (And.intro @z8 (And.intro @z7 @hKb))))
   refine gk nePortsSt7 (fun j r => match j with | _ => True) fun K hK => ?_
   repeat refine dvF ?_
   have dfk := And.intro @xd (Eq.symm hE1)
   refine bt (hK _ (a8 [1, 2, 6, 7, 8, 9, 16, 17, 18] ?_))
   clear hK K
   have dfx := And.intro dfx (And.intro @nePortsSt8.eq_def (And.intro @dw (And.intro @z8 (And.intro @z7 (And.intro @hd1 @hq)))))
   refine gk nePortsSt8 (fun j r => match j with | _ => True) fun K hK => ?_
   repeat refine dvF ?_
   have dfk := And.intro @xd (And.intro @hE1 @hst)
   refine bt (hK _ (a8 [1, 2, 6, 7, 16, 17, 18] ?_))
   clear hK K
   refine dwR fun K hK => ?_
   repeat refine evF ?_
   have dfk := @cd
   refine aa (hK _ ?_)
   clear hK K
   show ∃ x, _ ∧ _ ∧ Weak _ _
   refine ⟨k + 1, ?_, ?_, ay [1, 2, 6, 7, 16, 17, 18]⟩
   ·omega
   ·omega
 ·have hk2 : k = dg N.ends v := by
   have : ¬ k < (gl N.ends v).length := by simpa using hb
   rw [hdg]; omega
  have hall := Ji hsym hv hperm
  rw [← hk2] at hall
  refine ap ?_
  refine bc [6, 7] (by simp only [ac, C.at, C.put, List.dropLast, List.isPrefixOf, simprocAttr]; exact rfl) ?_
  refine ab (dwR fun K hK => ?_)
  repeat refine evF ?_
  refine aa (hK _ (dwK [6] ?_))
  clear hK K
  exact ak (aq Tryz.results189 (.one (.cell 6 _ _ _ _ rfl rfl an rfl rfl (am ⟨_, _, _⟩))) (by decide) (by show [RV.own true (netO ⟨dv N.ends v π k, N.ids, N.inputs⟩)] = _; rw [hall]; rfl))
def NFo : NF := ⟨true, 82, true, 35, true, 3, true, 3⟩
theorem Q6 (N : Net) (v : Nat) (hv : v < N.ends.length) (hd : (gl N.ends v).length ≤ 262144) : DCalls Tryz.prog 120 [.agg (netO N), .c (.p (.int .i64 v))] (fun r => r = [.own false [.sl true 3 1 ((fy N v (gl N.ends v).length).map iC)]]) := Hg NFo N v hv hd
theorem uj (N : Net) (v x : Nat) (hs : fp N) (hv : v < N.ends.length) (hx : x < N.ends.length) : DCalls Tryz.prog 143 [.agg (netO N), .c (.p (.int .i64 v)), .c (.p (.int .i64 x))] (fun r => r = [.own true (netO (mt N v x))]) := Q7 NFo N v x hs hv hx
theorem Q4 (N : Net) (v : Nat) (hs : fp N) (hv : v < N.ends.length) : DCalls Tryz.prog 142 [.agg (netO N), .c (.p (.int .i64 v))] (fun r => r = [.own true (netO (zt N v))]) := Q5 NFo N v hs hv
theorem Oa (o : Bool) (t : TypeId) (N : Net) (v : Nat) (π : List Int) (hs : fp N) (hv : v < N.ends.length) (hsym : Sym N.ends) (hperm : π.Perm (et (dg N.ends v))) :
 DCalls Tryz.prog 189 [.agg (netO N), .c (.p (.int .i64 v)), .c (.sl o t 1 (π.map iC))] (fun r => r = [.own true (netO (Jh N v π))]) := Ob NFo o t N v π hs hv hsym hperm
end
section
open Go Go.RowKit
def Cd (A E : List (List (Int × Int))) (k : Nat) : List (List (Int × Int)) := A ++ (E.take k).map (gf A.length)
theorem M3 (A E : List (List (Int × Int))) : Cd A E 0 = A := by simp [Cd]
theorem M4 {A E : List (List (Int × Int))} {k : Nat} (h : k < E.length) : Cd A E (k + 1) = Cd A E k ++ [gf A.length (gl E k)] := by
 unfold Cd
 rw [List.take_add_one, List.getElem?_eq_getElem h, ge h, List.map_append, List.append_assoc]
 rfl
theorem P6 {A E : List (List (Int × Int))} {k : Nat} (h : k ≤ E.length) : (Cd A E k).length = A.length + k := by simp [Cd]; omega
theorem I8 {n i : Nat} {es : List (Int × Int)} (h : i < es.length) : gf n (es.take (i + 1)) = gf n (es.take i) ++ [((gp es i).1 + (n : Int), (gp es i).2)] := by
 unfold gf
 rw [List.take_add_one, List.getElem?_eq_getElem h, ib h, List.map_append]
 rfl
theorem Qd (t2 : TypeId) (L : List (List (Int × Int))) (es : List (Int × Int)) : L.map (esC t2) ++ [[C.sl true t2 2 (es.map eC)]] = (L ++ [es]).map (esC t2) := by simp [esC]
theorem Kx (xs ys : List Int) : xs.map iC ++ ys.map iC = (xs ++ ys).map iC := by simp
def zBDun1 := PLift.up (And.intro an (And.intro @netO.eq_1 (And.intro @b7 (And.intro bb (And.intro cl (And.intro bm (And.intro bj (And.intro @if_pos.{1} (And.intro bn (And.intro @b4 (And.intro @b0 (And.intro @br @trivial))))))))))))
theorem Xi : type_of% zBDun1.down := zBDun1.down
set_option maxRecDepth 8000 in
set_option maxHeartbeats 0 in
theorem N9 (f f' : NF) (M N : Net) (hs : fp M) (hs' : fp N) (hsym : Sym N.ends) : DCalls Tryz.prog 140 [.agg (bv f M), .agg (bv f' N)] (fun r => r = [.own true (netO (kf M N))]) := by
 obtain ⟨m1, m2, m3, m4⟩ := id hs
 obtain ⟨n1, n2, n3, n4⟩ := id hs'
 refine ao Tryz.func140 rfl (by rw [Tryz.ntmps140]; simp) fun w0 => ?_
 rw [Tryz.ntmps140]
 have dfx := Xi
 simp only [ce, be, Arg.av, bv, cm, ints, ends]
 refine ab (dwR fun K hK => ?_)
 repeat refine evF ?_
 refine aa (hK _ (dwK [2, 3, 4] ?_))
 clear hK K
 refine ab (dwR fun K hK => ?_)
 repeat refine evF ?_
 refine clF rfl ⟨rfl, _, rfl⟩ (by omega) (by first | exact wu) (qv ⟨false, f.t1, f.o2, f.t2, false, f.t3, false, f.t4⟩ M hs) ?_
 rintro _ rfl
 repeat refine evF ?_
 refine aa (hK _ (dwK [2, 3, 4, 5] ?_))
 clear hK K
 refine ab (dwR fun K hK => ?_)
 repeat refine evF ?_
 have dfk := @Kx
 refine aa (hK _ (a8 [2, 3, 4, 5] ?_))
 clear hK K
 refine ab (dwR fun K hK => ?_)
 repeat refine evF ?_
 have dfk := @Kx
 refine aa (hK _ (a8 [2, 3, 4, 5] ?_))
 clear hK K
 refine ab ?_
 refine ab (dwR fun K hK => ?_)
 repeat refine evF ?_
 refine aa (hK _ (dwK [2, 4, 5, 26, 27, 28] ?_))
 clear hK K
 refine ae ?_
 refine ax (X := Nat) (fun k => k ≤ N.ends.length) (fun k => [(28, .c (.p (.int .i64 k)))]) (fun k => [((5, 0), ⟨some 27, [.sl true 82 1 ((Cd M.ends N.ends k).map (esC 35)), .sl true 3 1 ((M.ids ++ N.ids).map iC), .sl true 3 1 ((M.inputs ++ N.inputs).map iC)]⟩)]) (fun k => N.ends.length - k) 0 (Nat.zero_le _) (by first | rfl | (simp only [ac, C.at, C.put, List.dropLast, List.isPrefixOf, simprocAttr, Int.natCast_zero, M3] <;> rfl)) ?_
 rintro k hk
 intro E hE
 simp only [ac, C.at, C.put, List.dropLast, List.isPrefixOf, simprocAttr] at hE
 subst hE
 refine ab (dwR fun K hK => ?_)
 repeat refine evF ?_
 refine aa (hK _ (dwK [2, 4, 5, 26, 27, 28, 29] ?_))
 clear hK K
 refine ab (dwI (fun hb => ?_) (fun hb => ?_))
 ·have hk1 : k < N.ends.length := by simpa using hb
  have hdk := n2 k hk1
  have hul := P6 (A := M.ends) hk
  have hus := M4 (A := M.ends) hk1
  refine ai ?_
  show DW _ _ _ _ _
  refine ab (ae ?_)
  refine ab (dwR fun K hK => ?_)
  repeat refine evF ?_
  refine aa (hK _ (dwK [2, 4, 5, 7, 26, 27, 28] ?_))
  clear hK K
  refine ab (dwR fun K hK => ?_)
  repeat refine evF ?_
  refine aa (hK _ (dwK [2, 4, 5, 7, 8, 26, 27, 28] ?_))
  clear hK K
  refine ab ?_
  refine ab (dwR fun K hK => ?_)
  repeat refine evF ?_
  refine aa (hK _ (dwK [2, 4, 5, 8, 26, 27, 28, 32, 33, 34] ?_))
  clear hK K
  refine ae ?_
  refine jw 8 35 2 (by decide) (by simp only [ac, C.at, C.put, List.dropLast, List.isPrefixOf, simprocAttr]) [2, 4, 5, 8, 26, 27, 28, 32, 33, 34] (by simp only [ac, C.at, C.put, List.dropLast, List.isPrefixOf, simprocAttr]; exact rfl) ?_
  refine ax (X := Nat) (fun i => i ≤ (gl N.ends k).length) (fun i => [(34, .c (.p (.int .i64 i)))]) (fun i => [((8, 0), ⟨none, [.sl true 35 2 ((gf M.ends.length ((gl N.ends k).take i)).map eC)]⟩)]) (fun i => (gl N.ends k).length - i) 0 (Nat.zero_le _) (by first | rfl | (simp only [ac, C.at, C.put, List.dropLast, List.isPrefixOf, simprocAttr, Int.natCast_zero] <;> rfl)) ?_
  rintro i hi
  intro E hE
  simp only [ac, C.at, C.put, List.dropLast, List.isPrefixOf, simprocAttr] at hE
  subst hE
  have hsl : (gf M.ends.length ((gl N.ends k).take i)).length = i := by simp [gf]; omega
  refine ab (dwR fun K hK => ?_)
  repeat refine evF ?_
  refine aa (hK _ (dwK [2, 4, 5, 8, 26, 27, 28, 32, 33, 34, 35] ?_))
  clear hK K
  refine ab (dwI (fun hb => ?_) (fun hb => ?_))
  ·have hi1 : i < (gl N.ends k).length := by simpa using hb
   obtain ⟨b', j', hbj, hbl, -, -⟩ := hsym k i hk1 hi1
   have hbj : gp (gl N.ends k) i = ((b' : Int), (j' : Int)) := hbj
   have hss := I8 (n := M.ends.length) hi1
   rw [hbj] at hss
   dsimp only at hss
   refine ai ?_
   show DW _ _ _ _ _
   refine ab (ae ?_)
   have dfx := And.intro dfx (@hbj)
   refine ab (dwR fun K hK => ?_)
   repeat refine evF ?_
   refine aa (hK _ (dwK [2, 4, 5, 8, 10, 26, 27, 28, 32, 33, 34] ?_))
   clear hK K
   refine dwR fun K hK => ?_
   repeat refine evF ?_
   have dfk := @ni
   refine aa (hK _ (a8 [2, 4, 5, 8, 26, 27, 28, 32, 33, 34] ?_))
   clear hK K
   refine dwR fun K hK => ?_
   repeat refine evF ?_
   have dfk := And.intro @cd @hss
   refine aa (hK _ ?_)
   clear hK K
   show ∃ x, _ ∧ _ ∧ Weak _ _
   refine ⟨i + 1, ?_, ?_, ay [2, 4, 5, 8, 26, 27, 28, 32, 33, 34]⟩
   ·omega
   ·omega
  ·have hi2 : i = (gl N.ends k).length := by
    have : ¬ i < (gl N.ends k).length := by simpa using hb
    omega
   have htk : (gl N.ends k).take i = gl N.ends k := by rw [hi2, List.take_length]
   refine ap ?_
   refine bc [2, 4, 5, 8, 26, 27, 28] (by simp only [ac, C.at, C.put, List.dropLast, List.isPrefixOf, simprocAttr, htk]; exact rfl) ?_
   refine dwR fun K hK => ?_
   repeat refine evF ?_
   have dfk := And.intro @j5 @Qd
   refine aa (hK _ (a8 [2, 4, 5, 26, 27, 28] ?_))
   clear hK K
   refine dwR fun K hK => ?_
   repeat refine evF ?_
   have dfk := And.intro @cd @hus
   refine aa (hK _ ?_)
   clear hK K
   show ∃ x, _ ∧ _ ∧ Weak _ _
   refine ⟨k + 1, ?_, ?_, ay [2, 4, 5, 26, 27, 28]⟩
   ·omega
   ·omega
 ·have hk2 : k = N.ends.length := by
   have : ¬ k < N.ends.length := by simpa using hb
   omega
  have hun : kf M N = ⟨Cd M.ends N.ends k, M.ids ++ N.ids, M.inputs ++ N.inputs⟩ := by rw [hk2]; simp [kf, jq, Cd]
  refine ap ?_
  refine bc [4, 5] (by simp only [ac, C.at, C.put, List.dropLast, List.isPrefixOf, simprocAttr]; exact rfl) ?_
  refine ab (dwR fun K hK => ?_)
  repeat refine evF ?_
  refine aa (hK _ (dwK [4] ?_))
  clear hK K
  exact ak (aq Tryz.results140 (.one (.cell 4 _ _ _ _ rfl rfl an rfl rfl (am ⟨_, _, _⟩))) (by decide) (by rw [hun]; rfl))
theorem N8 (M N : Net) (hs : fp M) (hs' : fp N) (hsym : Sym N.ends) : DCalls Tryz.prog 140 [.agg (netO M), .agg (netO N)] (fun r => r = [.own true (netO (kf M N))]) := N9 NFo NFo M N hs hs' hsym
end
end Go.Proofs.YtdiiggpohcjppaaGreat
