/- Parts of the proof, joined: Wdr, LaWaves. -/
import Derived.Test.YtlaahgdikiiahaaGreatCJn34
import Derived.Test.YtlaahgdikiiahaaGreatCJn47
import Derived.Test.YtlaahgdikiiahaaGreatCJn25
import Derived.Test.YtlaahgdikiiahaaGreatCDt
import Derived.Test.YtlaahgdikiiahaaGreatCLwb
set_option linter.unusedSimpArgs false
set_option linter.unusedVariables false
namespace Go.Proofs.YtlaahgdikiiahaaGreat
section
open Go Go.RowKit
def NbP (rs : List RV) : Prop := ∃ N x, rs = [.agg (netZ N), .c (.p (.int .i64 x))] ∧ Tame N
def DrawNeighboursOfSt3 : Nat → Stat
 | 0 => ⟨[5], [(5, 1)], [], [11], [], []⟩
 | 1 => ⟨[4], [], [], [12], [], []⟩
 | 2 => ⟨[5], [(5, 1)], [], [13], [], []⟩
 | 3 => ⟨[13], [(5, 1)], [], [14], [], []⟩
 | 4 => ⟨[14], [], [], [15], [], []⟩
 | 5 => ⟨[15], [], [], [16], [], []⟩
 | 6 => ⟨[12, 16], [], [8], [17], [(8, 1)], []⟩
 | 7 => ⟨[4], [], [], [18], [], []⟩
 | 8 => ⟨[18], [], [8], [19], [(8, 1)], []⟩
 | 9 => ⟨[19], [], [], [20], [], []⟩
 | 10 => ⟨[17, 20], [], [], [21], [], []⟩
 | 11 => ⟨[2, 11], [(2, 1)], [], [], [(2, 1)], []⟩
 | 12 => ⟨[21], [], [], [3], [], []⟩
 | _ => ⟨[], [], [], [], [], []⟩
theorem dfxWdr : type_of% (And.intro tab27 (And.intro tab80 (And.intro tab22 (And.intro tab3 (And.intro tab78 (And.intro @rowi (And.intro tab24 (And.intro tab67 (And.intro tab25 (And.intro @netO.eq_1 (And.intro @netZ.eq_1 (And.intro @if_pos.{1} @trivial)))))))))))) := And.intro tab27 (And.intro tab80 (And.intro tab22 (And.intro tab3 (And.intro tab78 (And.intro @rowi (And.intro tab24 (And.intro tab67 (And.intro tab25 (And.intro @netO.eq_1 (And.intro @netZ.eq_1 (And.intro @if_pos.{1} @trivial)))))))))))
set_option maxRecDepth 8000 in
set_option maxHeartbeats 0 in
theorem DrawNeighboursOf_c (bs : List Int) (hby : BytesOk bs) : ACalls Tryz.prog 31 [.c (codeC bs)] NbP := by -- params []uint8
 refine acalls_of (by simp [Arg.isIo]) Tryz.func31 rfl (by rw [Tryz.ntmps31]; simp) fun w0 => ?_
 rw [Tryz.ntmps31]
 have dfx := dfxWdr
 simp only [initE, argsL, Arg.av, codeC]
 refine dw_seq (dwR fun K hK => ?_)
 repeat refine evF ?_
 refine aops_end (hK _ (dwK [0, 2] ?_))
 clear hK K
 refine dw_seq (dwR fun K hK => ?_)
 repeat refine evF ?_
 refine aops_end (hK _ (dwK [2, 4, 8] ?_))
 clear hK K
 refine dw_seq (dwR fun K hK => ?_)
 repeat refine evF ?_
 refine ciaF rfl ⟨rfl, _, rfl⟩ (by omega) (by first | exact may77) (anyNet_c bs 0 0 8 _ _ rfl hby (Nat.zero_le 0) (by omega) (by omega) (by omega)) ?_
 rintro _ ⟨p1, s1, _, rfl, hp1, N1, rfl, ht1⟩
 refine ioF ?_
 repeat refine evF ?_
 have dfk := @netO.eq_1
 refine aops_end (hK _ (dwKF [2, 4, 5, 8] ?_))
 clear hK K
 refine dw_frz 5 [2, 4, 5, 8] (by simp only [bunK, C.at, C.put, List.dropLast, List.isPrefixOf, Nat.reduceMul, Nat.reduceLT, Nat.reduceLeDiff, Nat.reduceBEq, Nat.reduceEqDiff, reduceCtorEq, Nat.reduceAdd, ↓reduceIte]; exact rfl) ?_
 have hl1 := ht1.len
 have dfx := And.intro dfx (@DrawNeighboursOfSt3.eq_def)
 refine dw_seq (dwRD DrawNeighboursOfSt3 (fun j r => match j with | 6 => CurO bs (576460752340000000 + 2) (fun rs => ∃ x, rs = [.c (.p (.int .i64 x))] ∧ pickP ((N1.ends.length : Int) + 1) x) r | 8 => CurO bs (576460752340000000 + 2 + 2) (fun rs => ∃ x, rs = [.c (.p (.int .i64 x))] ∧ pickP 16 x) r | _ => True) fun K hK => ?_)
 repeat refine dvF ?_
 have dfx := And.intro dfx (@DrawNeighboursOfSt3.eq_def)
 refine disF rfl ⟨rfl, _, rfl⟩ (by omega) (by first | exact may43) (pick_c bs p1 s1 ((N1.ends.length : Int) + 1) (576460752340000000) hby (by omega) (by omega)) (CurO.ex ⟨_, 0, rfl, pick0 _⟩) ?_
 rintro _ ⟨p2, s2, _, rfl, hp2, x2, rfl, hx2⟩
 refine dioF ?_
 repeat refine dvF ?_
 have dfx := And.intro dfx (@DrawNeighboursOfSt3.eq_def)
 refine disF rfl ⟨rfl, _, rfl⟩ (by omega) (by first | exact may43) (pick_c bs p2 s2 16 (576460752340000000 + 2) hby (by omega) (by omega)) (CurO.ex ⟨_, 0, rfl, pick0 _⟩) ?_
 rintro _ ⟨p3, s3, _, rfl, hp3, x3, rfl, hx3⟩
 refine dioF ?_
 repeat refine dvF ?_
 refine dops_end (hK _ (dwK [2, 3, 8] ?_))
 clear hK K
 exact dw_ret (fin_retA Tryz.results31 (.two (.cell 2 _ _ _ _ rfl rfl tab27 rfl rfl rfl) (.re _ _ (.plain _ _ rfl))) (by decide) ⟨N1, _, rfl, ht1⟩)
set_option maxRecDepth 8000 in
set_option maxHeartbeats 0 in
theorem DrawWaveFrom_c (bs : List Int) (hby : BytesOk bs) : ACalls Tryz.prog 6 [.c (codeC bs)] NbP := by -- params []uint8
 refine acalls_of (by simp [Arg.isIo]) Tryz.func6 rfl (by rw [Tryz.ntmps6]; simp) fun w0 => ?_
 rw [Tryz.ntmps6]
 have dfx := dfxWdr
 simp only [initE, argsL, Arg.av, codeC]
 refine dw_seq (dwR fun K hK => ?_)
 repeat refine evF ?_
 refine aops_end (hK _ (dwK [0, 2] ?_))
 clear hK K
 refine dw_seq (dwR fun K hK => ?_)
 repeat refine evF ?_
 refine caF rfl ⟨rfl, _, rfl⟩ (by omega) (by first | exact may31) (DrawNeighboursOf_c bs hby) ?_
 rintro _ ⟨N1, x1, rfl, ht1⟩
 repeat refine evF ?_
 refine aops_end (hK _ (dwK [2, 3] ?_))
 clear hK K
 exact dw_ret (fin_retA Tryz.results6 (.two (.cell 2 _ _ _ _ rfl rfl tab27 rfl rfl rfl) (.re _ _ (.plain _ _ rfl))) (by decide) ⟨N1, _, rfl, ht1⟩)
def ValP (rs : List RV) : Prop := ∃ vs : List Int, rs = [.own false [.sl true 3 1 (vs.map iC)]] ∧ vs.length ≤ 1000
set_option maxRecDepth 8000 in
set_option maxHeartbeats 0 in
theorem values_c (bs : List Int) (p : Nat) (s : Int) (m : Nat) (z : Int) (B : Nat) (hz : z = m) (hm : m ≤ 1000) (hby : BytesOk bs) (hp : p ≤ B) (hB : B + 5000 ≤ 4611686018427387900) : ACalls Tryz.prog 42 [.io 80 (curC bs p s), .c (.p (.int .i64 z))] (CurO bs (B + 5000) ValP) := by -- params *spec.l1Cur, int
 subst hz
 refine iocalls_of Tryz.func42 rfl (by rw [Tryz.ntmps42]; simp) fun w0 => ?_
 rw [Tryz.ntmps42]
 have dfx := dfxWdr
 simp only [initIO, argsL, Arg.av, curC]
 refine dw_seq (dwR fun K hK => ?_)
 repeat refine evF ?_
 refine aops_end (hK _ (dwK [0, 1, 31] ?_))
 clear hK K
 refine dw_seq (dwR fun K hK => ?_)
 repeat refine evF ?_
 refine aops_end (hK _ (dwK [0, 1, 5, 31] ?_))
 clear hK K
 refine dw_nil 5 3 1 (by decide) (by simp only [bunK, C.at, C.put, List.dropLast, List.isPrefixOf, Nat.reduceMul, Nat.reduceLT, Nat.reduceLeDiff, Nat.reduceBEq, Nat.reduceEqDiff, reduceCtorEq, Nat.reduceAdd, ↓reduceIte]) [0, 1, 5, 31] (by simp only [bunK, C.at, C.put, List.dropLast, List.isPrefixOf, Nat.reduceMul, Nat.reduceLT, Nat.reduceLeDiff, Nat.reduceBEq, Nat.reduceEqDiff, reduceCtorEq, Nat.reduceAdd, ↓reduceIte]; exact rfl) ?_
 refine dw_seq (dw_block ?_)
 refine dw_loopP (X := List Int × Nat × Int) (fun x => x.1.length ≤ m ∧ x.2.1 ≤ B + 4 * x.1.length) (fun x => []) (fun x => [((5, 0), ⟨none, [.sl true 3 1 (x.1.map iC)]⟩), ((31, 0), ⟨some 80, [.sl false 5 1 (bs.map bC), .p (.int .i64 x.2.1), .p (.int .u64 x.2.2)]⟩)]) (fun x => m - x.1.length) ([], p, s) ⟨Nat.zero_le _, by simpa using hp⟩ (by first | rfl | (simp only [bunK, C.at, C.put, List.dropLast, List.isPrefixOf, Nat.reduceMul, Nat.reduceLT, Nat.reduceLeDiff, Nat.reduceBEq, Nat.reduceEqDiff, reduceCtorEq, Nat.reduceAdd, ↓reduceIte, Int.natCast_zero, curC, List.map_nil] <;> rfl)) ?_
 rintro ⟨vs, p1, s1⟩ ⟨hvl, hp1⟩
 intro E hE
 simp only [bunK, C.at, C.put, List.dropLast, List.isPrefixOf, Nat.reduceMul, Nat.reduceLT, Nat.reduceLeDiff, Nat.reduceBEq, Nat.reduceEqDiff, reduceCtorEq, Nat.reduceAdd, ↓reduceIte] at hE
 subst hE
 dsimp only at hvl hp1 ⊢
 refine dw_seq ?_
 refine dw_seq (dwR fun K hK => ?_)
 repeat refine evF ?_
 refine aops_end (hK _ (dwK [0, 1, 5, 9, 31] ?_))
 clear hK K
 refine dwI (fun hb => ?_) (fun hb => ?_)
 ·have hlt : vs.length < m := by simpa using hb
  refine dw_skip ?_
  show DW _ _ _ _ _
  refine dw_block ?_
  refine dwR fun K hK => ?_
  repeat refine evF ?_
  refine cisF rfl ⟨rfl, _, rfl⟩ (by omega) (by first | exact may43 | exact may55) (pick_c bs p1 s1 100 _ hby hp1 (by omega)) ?_
  rintro _ ⟨p2, s2, _, rfl, hp2, x2, rfl, hx2⟩
  refine ioF ?_
  repeat refine evF ?_
  refine aops_ev rfl (gX_constsT [0, 0, 1, 2, 3, 5, -1, 40, 1000000, -1000000] rfl rfl rfl rfl tab25 rfl tab3 rfl rfl (by simp) (by simp) (by omega) rfl) ?_
  refine cisF rfl ⟨rfl, _, rfl⟩ (by omega) (by first | exact may43 | exact may55) (among_c bs p2 s2 true 3 [0, 0, 1, 2, 3, 5, -1, 40, 1000000, -1000000, x2] _ hby hp2 (by omega) (by simp) (by simp)) ?_
  rintro _ ⟨p3, s3, _, rfl, hp3, x3, rfl, hx3⟩
  refine ioF ?_
  repeat refine evF ?_
  have dfk := @snoc_iC
  refine aops_end (hK _ ?_)
  clear hK K
  show ∃ x, _ ∧ _ ∧ Weak _ _
  refine ⟨(vs ++ [x3], p3, s3), ?_, ?_, weakFk [0, 1, 5, 31]⟩
  ·exact ⟨by simp; omega, by simp; omega⟩
  ·simp; omega
 ·have hle : vs.length = m := by
   have : ¬ (vs.length : Int) < (m : Int) := by simpa using hb
   omega
  refine dw_leave3 ?_
  refine dwK [0, 5, 31] ?_
  refine dw_join (X := List Int × Nat × Int) (fun x => x.1.length = m ∧ x.2.1 ≤ B + 4500) (fun x => mkE 31 [(5, .own false 1), (31, .dead)] [((5, 0), ⟨none, [.sl true 3 1 (x.1.map iC)]⟩), ((31, 0), ⟨some 80, [.sl false 5 1 (bs.map bC), .p (.int .i64 x.2.1), .p (.int .u64 x.2.2)]⟩)]) ?_ ?_
  ·obtain hpos | hpos := Bool.eq_false_or_eq_true (decide ((vs.length : Int) > 0))
   ·have hvp : 0 < vs.length := by have := of_decide_eq_true hpos; omega
    have dfx := And.intro dfx (@hpos)
    refine dw_seq (dwR fun K hK => ?_)
    repeat refine evF ?_
    have dfx := And.intro dfx (@hpos)
    refine cjsF rfl rfl ⟨rfl, _, rfl⟩ (by omega) (by first | exact may65) (one_c bs p1 s1 40 _ hby hp1 (by omega)) ?_
    rintro _ ⟨p3, s3, _, rfl, hp3, b3, rfl⟩
    refine ioF ?_
    repeat refine evF ?_
    have dfk := @hpos
    refine aops_end (hK _ (dwKF [0, 5, 24, 31] ?_))
    clear hK K
    refine dwI (fun hb => ?_) (fun hb => ?_)
    ·refine dwR fun K hK => ?_
     repeat refine evF ?_
     refine cisF rfl ⟨rfl, _, rfl⟩ (by omega) (by first | exact may55) (among_c bs p3 s3 true 3 [1000001, -1000001, 4611686018427387904] _ hby hp3 (by omega) (by simp) (by simp)) ?_
     rintro _ ⟨p4, s4, _, rfl, hp4, x4, rfl, hx4⟩
     refine ioF ?_
     repeat refine evF ?_
     have dfx := And.intro dfx (@toNat0)
     repeat refine evF ?_
     refine aops_end (hK _ ?_)
     clear hK K
     show ∃ x, _ ∧ Weak _ _
     refine ⟨(vs.set 0 x4, p4, s4), ?_, (weak_keep _ [5, 31]).trans (Weak.of_eq (by simp only [bunK, C.at, C.put, List.dropLast, List.isPrefixOf, Nat.reduceMul, Nat.reduceLT, Nat.reduceLeDiff, Nat.reduceBEq, Nat.reduceEqDiff, reduceCtorEq, Nat.reduceAdd, ↓reduceIte , toNat0, puti] <;> exact rfl))⟩
     exact ⟨by rw [List.length_set]; exact hle, by dsimp only; omega⟩
    ·refine dw_skip ?_
     show ∃ x, _ ∧ Weak _ _
     refine ⟨(vs, p3, s3), ?_, (weak_keep _ [5, 31]).trans (Weak.of_eq (by simp only [bunK, C.at, C.put, List.dropLast, List.isPrefixOf, Nat.reduceMul, Nat.reduceLT, Nat.reduceLeDiff, Nat.reduceBEq, Nat.reduceEqDiff, reduceCtorEq, Nat.reduceAdd, ↓reduceIte] <;> exact rfl))⟩
     exact ⟨hle, by dsimp only; omega⟩
   ·have dfx := And.intro dfx (@hpos)
    refine dw_seq (dwR fun K hK => ?_)
    repeat refine evF ?_
    have dfx := And.intro dfx (@hpos)
    refine csF ?_
    repeat refine evF ?_
    have dfk := @hpos
    refine aops_end (hK _ (dwKF [5, 24, 31] ?_))
    clear hK K
    refine dwI (fun hb => ?_) (fun hb => ?_)
    ·cases hb
    ·refine dw_skip ?_
     show ∃ x, _ ∧ Weak _ _
     refine ⟨(vs, p1, s1), ?_, (weak_keep _ [5, 31]).trans (Weak.of_eq (by simp only [bunK, C.at, C.put, List.dropLast, List.isPrefixOf, Nat.reduceMul, Nat.reduceLT, Nat.reduceLeDiff, Nat.reduceBEq, Nat.reduceEqDiff, reduceCtorEq, Nat.reduceAdd, ↓reduceIte] <;> exact rfl))⟩
     exact ⟨hle, by dsimp only; omega⟩
  ·rintro ⟨v2, p5, s5⟩ ⟨hv2, hp5⟩
   dsimp only at hv2 hp5 ⊢
   refine dw_seq (dwR fun K hK => ?_)
   repeat refine evF ?_
   refine aops_end (hK _ (dwK [4, 31] ?_))
   clear hK K
   exact dw_ret (fin_retIO Tryz.results42 Tryz.ntmps42 (.one (.re _ _ (.own _ _ _ _ rfl rfl (own1 (owned_ints _ _))))) (by decide) (by decide) rfl rfl rfl ⟨p5, s5, _, rfl, by omega, v2, rfl, by rw [hv2]; exact hm⟩)
def RtdP (rs : List RV) : Prop := ∃ (N : Net) (ps : List Int), rs = [.agg (netZ N), .own false [.sl true 3 1 (ps.map iC)]] ∧ Tame N ∧ ps.length ≤ 64
theorem biWave_e (f : NF) (N : Net) (x : Int) (hg : goodB N = true) (hx : pickP (N.ends.length : Int) x) : DCalls Tryz.prog 36 [.agg (netC f N), .c (.p (.int .i64 x))] (fun r => ∃ (P D : List Int) (m : Int), r = [.own false [.sl true 3 1 (P.map iC)], .own false [.sl true 3 1 (D.map iC)], .c (.p (.int .i64 m))] ∧ P.length = N.ends.length) := by
 have hn := good_len hg
 obtain ⟨v, rfl⟩ := Int.eq_ofNat_of_zero_le hx.1
 have hv : v < N.ends.length := by rcases hx.2.2 with h | h <;> omega
 exact (biWave_d f N v hg hv).mono fun r h => ⟨_, _, _, h, wpar_len⟩
def rootedNetSt5 : Nat → Stat
 | 0 => ⟨[4], [(4, 1)], [4], [18], [], []⟩
 | 1 => ⟨[4], [(4, 1)], [], [19], [], []⟩
 | 2 => ⟨[19], [(4, 1)], [], [20], [], []⟩
 | 3 => ⟨[20], [], [], [21], [], []⟩
 | 4 => ⟨[21], [], [], [22], [], []⟩
 | 5 => ⟨[2, 18], [(2, 1)], [], [], [(2, 1)], []⟩
 | 6 => ⟨[22], [], [22], [3], [(22, 1)], []⟩
 | _ => ⟨[], [], [], [], [], []⟩
def rootedNetSt6 : Nat → Stat
 | 0 => ⟨[4], [(4, 1)], [4], [24], [], []⟩
 | 1 => ⟨[0], [], [], [25], [], []⟩
 | 2 => ⟨[4], [(4, 1)], [], [26], [], []⟩
 | 3 => ⟨[26], [(4, 1)], [], [27], [], []⟩
 | 4 => ⟨[27], [], [], [28], [], []⟩
 | 5 => ⟨[25, 28], [], [48], [29], [(48, 1)], []⟩
 | 6 => ⟨[24, 29], [], [4], [30], [], []⟩
 | 7 => ⟨[30], [], [], [23], [], [(30, 1), (30, 2), (30, 3)]⟩
 | 8 => ⟨[23], [], [], [31], [], [(23, 1)]⟩
 | 9 => ⟨[23], [], [], [32], [], [(23, 2)]⟩
 | 10 => ⟨[23], [], [], [33], [], [(23, 3)]⟩
 | 11 => ⟨[31], [], [31], [5], [(31, 1)], []⟩
 | 12 => ⟨[32], [], [32], [6], [(32, 1)], []⟩
 | 13 => ⟨[33], [], [], [7], [], []⟩
 | _ => ⟨[], [], [], [], [], []⟩
set_option maxRecDepth 8000 in
set_option maxHeartbeats 0 in
theorem rootedNet_c (bs : List Int) (p : Nat) (s : Int) (B : Nat) (hby : BytesOk bs) (hp : p ≤ B) (hB : B + 800000000000000000 ≤ 4611686018427387900) : ACalls Tryz.prog 41 [.io 80 (curC bs p s)] (CurO bs (B + 800000000000000000) RtdP) := by -- params *spec.l1Cur
 refine iocalls_of Tryz.func41 rfl (by rw [Tryz.ntmps41]; simp) fun w0 => ?_
 rw [Tryz.ntmps41]
 have dfx := dfxWdr
 simp only [initIO, argsL, Arg.av, curC]
 refine dw_seq (dwR fun K hK => ?_)
 repeat refine evF ?_
 refine aops_end (hK _ (dwK [0, 2, 48] ?_))
 clear hK K
 refine dw_seq (dwR fun K hK => ?_)
 repeat refine evF ?_
 refine ciaF rfl ⟨rfl, _, rfl⟩ (by omega) (by first | exact may86) (simple_c bs p s 9 _ _ rfl hby hp (by omega) (by omega) (by omega)) ?_
 rintro _ ⟨p1, s1, _, rfl, hp1, N1, rfl, ht1⟩
 refine ioF ?_
 repeat refine evF ?_
 have dfk := @netO.eq_1
 refine aops_end (hK _ (dwKF [0, 2, 4, 48] ?_))
 clear hK K
 refine dw_join (X := Net × Nat × Int) (fun z => Tame z.1 ∧ z.2.1 ≤ B + 720576000000000000) (fun z => mkE 48 [(0, .ptr 48 0 [(0, 0)] 0), (2, .box), (4, .box), (48, .dead)] [((2, 0), ⟨some 27, [.p (.slice none 0 0), .p (.slice none 0 0), .p (.slice none 0 0)]⟩), ((4, 0), ⟨some 27, [.sl false 67 1 (z.1.ends.map (esC 69)), .sl false 3 1 (z.1.ids.map iC), .sl false 3 1 (z.1.inputs.map iC)]⟩), ((48, 0), ⟨some 80, [.sl false 5 1 (bs.map bC), .p (.int .i64 z.2.1), .p (.int .u64 z.2.2)]⟩)]) ?_ ?_
 ·refine dw_seq (dwR fun K hK => ?_)
  repeat refine evF ?_
  refine cisF rfl ⟨rfl, _, rfl⟩ (by omega) (by first | exact may65) (one_c bs p1 s1 4 _ hby hp1 (by omega)) ?_
  rintro _ ⟨p2, s2, _, rfl, hp2, b2, rfl⟩
  refine ioF ?_
  repeat refine evF ?_
  refine aops_end (hK _ (dwK [0, 2, 4, 12, 48] ?_))
  clear hK K
  refine dwI (fun hb => ?_) (fun hb => ?_)
  ·refine dwR fun K hK => ?_
   repeat refine evF ?_
   refine ciaF rfl ⟨rfl, _, rfl⟩ (by omega) (by first | exact may77) (anyNet_c bs p2 s2 8 _ _ rfl hby hp2 (by omega) (by omega) (by omega)) ?_
   rintro _ ⟨p3, s3, _, rfl, hp3, N3, rfl, ht3⟩
   refine ioF ?_
   repeat refine evF ?_
   refine aops_end (hK _ ?_)
   clear hK K
   show ∃ x, _ ∧ Weak _ _
   refine ⟨⟨N3, p3, s3⟩, ?_, ((weak_frz _ 4).trans (weak_keep _ [0, 2, 4, 48])).trans (Weak.of_eq (by simp only [bunK, C.at, C.put, List.dropLast, List.isPrefixOf, Nat.reduceMul, Nat.reduceLT, Nat.reduceLeDiff, Nat.reduceBEq, Nat.reduceEqDiff, reduceCtorEq, Nat.reduceAdd, ↓reduceIte , netO] <;> exact rfl))⟩
   exact ⟨ht3, by dsimp only; omega⟩
  ·refine dw_skip ?_
   show ∃ x, _ ∧ Weak _ _
   refine ⟨⟨N1, p2, s2⟩, ?_, ((weak_frz _ 4).trans (weak_keep _ [0, 2, 4, 48])).trans (Weak.of_eq (by simp only [bunK, C.at, C.put, List.dropLast, List.isPrefixOf, Nat.reduceMul, Nat.reduceLT, Nat.reduceLeDiff, Nat.reduceBEq, Nat.reduceEqDiff, reduceCtorEq, Nat.reduceAdd, ↓reduceIte] <;> exact rfl))⟩
   exact ⟨ht1.tame (by omega) (by omega), by dsimp only; omega⟩
 ·rintro ⟨N, p4, s4⟩ ⟨htm, hp4⟩
  dsimp only at htm hp4 ⊢
  have hln := htm.len
  refine dw_seq ?_
  refine dw_seq (dwR fun K hK => ?_)
  repeat refine evF ?_
  refine clF rfl ⟨rfl, _, rfl⟩ (by omega) (by first | exact may80) (neGood_d NFz N) ?_
  rintro _ rfl
  repeat refine evF ?_
  obtain hg | hg := Bool.eq_false_or_eq_true (goodB N)
  ·have dfx := And.intro dfx (@hg)
   repeat refine evF ?_
   have dfk := @hg
   refine aops_end (hK _ (dwKF [0, 2, 4, 17, 48] ?_))
   clear hK K
   refine dwI (fun hb => ?_) (fun hb => ?_)
   ·cases hb
   ·refine dw_skip ?_
    show DW _ _ _ _ _
    have hgl := good_len hg
    have dfx := And.intro dfx (@rootedNetSt6.eq_def)
    refine dw_seq (dwRD rootedNetSt6 (fun j r => match j with | 5 => CurO bs (B + 720576000000000000 + 2) (fun rs => ∃ x, rs = [.c (.p (.int .i64 x))] ∧ pickP (N.ends.length : Int) x) r | 6 => ∃ (P D : List Int) (m : Int), r = [.own false [.sl true 3 1 (P.map iC)], .own false [.sl true 3 1 (D.map iC)], .c (.p (.int .i64 m))] ∧ P.length = N.ends.length | _ => True) fun K hK => ?_)
    repeat refine dvF ?_
    have dfx := And.intro dfx (@rootedNetSt6.eq_def)
    refine disF rfl ⟨rfl, _, rfl⟩ (by omega) (by first | exact may43 | exact may36) (pick_c bs p4 s4 (N.ends.length : Int) (B + 720576000000000000) hby (by omega) (by omega)) (CurO.ex ⟨_, 0, rfl, pick0 _⟩) ?_
    rintro _ ⟨p5, s5, _, rfl, hp5, x5, rfl, hx5⟩
    refine dioF ?_
    repeat refine dvF ?_
    have dfx := And.intro dfx (@rootedNetSt6.eq_def)
    refine dxF rfl ⟨rfl, _, rfl⟩ (by omega) (by first | exact may43 | exact may36) (biWave_e NFz N x5 hg hx5) rfl (⟨_, (List.replicate N.ends.length 0), [], 0, rfl, by simp⟩) ?_
    rintro _ ⟨P, D, m, rfl, hPl⟩
    repeat refine dvF ?_
    refine dops_end (hK _ (dwK [0, 2, 4, 5, 48] ?_))
    clear hK K
    refine dw_join (X := List Int × Nat × Int) (fun z => z.1.length = N.ends.length ∧ z.2.1 ≤ B + 720576000000000000 + 100) (fun z => mkE 48 [(2, .box), (4, .box), (5, .own false 1), (48, .dead)] [((2, 0), ⟨some 27, [.p (.slice none 0 0), .p (.slice none 0 0), .p (.slice none 0 0)]⟩), ((4, 0), ⟨some 27, [.sl false 67 1 (N.ends.map (esC 69)), .sl false 3 1 (N.ids.map iC), .sl false 3 1 (N.inputs.map iC)]⟩), ((5, 0), ⟨none, [.sl true 3 1 (z.1.map iC)]⟩), ((48, 0), ⟨some 80, [.sl false 5 1 (bs.map bC), .p (.int .i64 z.2.1), .p (.int .u64 z.2.2)]⟩)]) ?_ ?_
    ·refine dw_seq (dwR fun K hK => ?_)
     repeat refine evF ?_
     refine cisF rfl ⟨rfl, _, rfl⟩ (by omega) (by first | exact may65) (one_c bs p5 s5 8 _ hby hp5 (by omega)) ?_
     rintro _ ⟨p6, s6, _, rfl, hp6, b6, rfl⟩
     refine ioF ?_
     repeat refine evF ?_
     refine aops_end (hK _ (dwK [0, 2, 4, 5, 35, 48] ?_))
     clear hK K
     refine dwI (fun hb => ?_) (fun hb => ?_)
     ·refine dw_seq (dwR fun K hK => ?_)
      repeat refine evF ?_
      refine cisF rfl ⟨rfl, _, rfl⟩ (by omega) (by first | exact may43) (pick_c bs p6 s6 (P.length : Int) _ hby hp6 (by omega)) ?_
      rintro _ ⟨p7, s7, _, rfl, hp7, x7, rfl, hx7⟩
      refine ioF ?_
      repeat refine evF ?_
      obtain ⟨v7, rfl⟩ := Int.eq_ofNat_of_zero_le hx7.1
      have hv7 : v7 < P.length := by rcases hx7.2.2 with h | h <;> omega
      refine aops_end (hK _ (dwK [0, 2, 4, 5, 8, 48] ?_))
      clear hK K
      refine dwR fun K hK => ?_
      repeat refine evF ?_
      refine cisF rfl ⟨rfl, _, rfl⟩ (by omega) (by first | exact may55) (among_c bs p7 s7 true 3 [-1, 0, 1, -2, 6] _ hby hp7 (by omega) (by simp) (by simp)) ?_
      rintro _ ⟨p8, s8, _, rfl, hp8, x8, rfl, hx8⟩
      refine ioF ?_
      repeat refine evF ?_
      refine aops_end (hK _ ?_)
      clear hK K
      show ∃ x, _ ∧ Weak _ _
      refine ⟨(P.set v7 x8, p8, s8), ?_, (weak_keep _ [2, 4, 5, 48]).trans (Weak.of_eq (by simp only [bunK, C.at, C.put, List.dropLast, List.isPrefixOf, Nat.reduceMul, Nat.reduceLT, Nat.reduceLeDiff, Nat.reduceBEq, Nat.reduceEqDiff, reduceCtorEq, Nat.reduceAdd, ↓reduceIte , puti] <;> exact rfl))⟩
      exact ⟨by rw [List.length_set]; exact hPl, by dsimp only; omega⟩
     ·refine dw_skip ?_
      show ∃ x, _ ∧ Weak _ _
      refine ⟨(P, p6, s6), ?_, (weak_keep _ [2, 4, 5, 48]).trans (Weak.of_eq (by simp only [bunK, C.at, C.put, List.dropLast, List.isPrefixOf, Nat.reduceMul, Nat.reduceLT, Nat.reduceLeDiff, Nat.reduceBEq, Nat.reduceEqDiff, reduceCtorEq, Nat.reduceAdd, ↓reduceIte] <;> exact rfl))⟩
      exact ⟨hPl, by dsimp only; omega⟩
    ·rintro ⟨ps, p9, s9⟩ ⟨hps, hp9⟩
     dsimp only at hps hp9 ⊢
     refine dw_seq (dwR fun K hK => ?_)
     repeat refine evF ?_
     refine aops_end (hK _ (dwK [2, 3, 48] ?_))
     clear hK K
     exact dw_ret (fin_retIO Tryz.results41 Tryz.ntmps41 (.two (.cell 2 _ _ _ _ rfl rfl tab27 rfl rfl rfl) (.re _ _ (.own _ _ _ _ rfl rfl (own1 (owned_ints _ _))))) (by decide) (by decide) rfl rfl rfl ⟨p9, s9, _, rfl, by omega, N, ps, rfl, htm, by omega⟩)
  ·have dfx := And.intro dfx (@hg)
   repeat refine evF ?_
   have dfk := @hg
   refine aops_end (hK _ (dwKF [0, 2, 4, 17, 48] ?_))
   clear hK K
   refine dwI (fun hb => ?_) (fun hb => ?_)
   ·have dfx := And.intro dfx (@rootedNetSt5.eq_def)
    refine dw_seq (dwRD rootedNetSt5 (fun j r => True) fun K hK => ?_)
    repeat refine dvF ?_
    have dfk := @zrows
    refine dops_end (hK _ (dwKF [2, 3, 48] ?_))
    clear hK K
    exact dw_ret (fin_retIO Tryz.results41 Tryz.ntmps41 (.two (.cell 2 _ _ _ _ rfl rfl tab27 rfl rfl rfl) (.re _ _ (.own _ _ _ _ rfl rfl (own1 (owned_ints _ _))))) (by decide) (by decide) rfl rfl rfl ⟨p4, s4, _, rfl, by omega, N, _, rfl, htm, by simp; omega⟩)
   ·cases hb
theorem SCalls.mono {P : Program} {f : FuncId} {t : TypeId} {xs : List C} {args : List Arg} {Post Post' : Res → Prop} (h : SCalls P f t xs args Post) (hp : ∀ r, Post r → Post' r) : SCalls P f t xs args Post' :=
 fun w vs val0 S0 T h1 h2 h3 h4 h5 => (h w vs val0 S0 T h1 h2 h3 h4 h5).mono fun _ _ ⟨r, xs', v, val, S, k1, k2, k3, k4⟩ => ⟨r, xs', v, val, S, k1, hp _ k2, k3, k4⟩
theorem pick24_c (bs : List Int) (p : Nat) (s : Int) (A : Nat) (hb : BytesOk bs) (hp : p ≤ A) (hA : A ≤ 4611686018427387900) : SCalls Tryz.prog 43 80 (curC bs p s) [.c (.p (.int .i64 24))] (CurO bs (A + 2) fun rs => ∃ x, rs = [.c (.p (.int .i64 x))] ∧ 0 ≤ x.tdiv 23 ∧ x.tdiv 23 ≤ 1) :=
 (pick_c bs p s 24 A hb hp hA).mono fun r ⟨p', s', rs, h1, h2, x, h3, h4⟩ => ⟨p', s', rs, h1, h2, x, h3, by
   obtain ⟨k, rfl⟩ := Int.eq_ofNat_of_zero_le h4.1
   have : k ≤ 23 := by rcases h4.2.2 with h | h <;> omega
   have e : (k : Int).tdiv 23 = ((k / 23 : Nat) : Int) := rfl
   rw [e]; omega⟩
def SmP (rs : List RV) : Prop := ∃ (N : Net) (ps vs : List Int), rs = [.agg (netZ N), .own false [.sl true 3 1 (ps.map iC)], .own false [.sl true 3 1 (vs.map iC)]] ∧ Tame N ∧ ps.length ≤ 64 ∧ vs.length ≤ 1000
def DrawSumUpSt3 : Nat → Stat
 | 0 => ⟨[6], [(6, 1)], [6], [16], [], []⟩
 | 1 => ⟨[7], [], [], [17], [], []⟩
 | 2 => ⟨[5], [], [], [18], [], []⟩
 | 3 => ⟨[7], [], [], [19], [], []⟩
 | 4 => ⟨[19], [(7, 1)], [], [20], [], []⟩
 | 5 => ⟨[5], [], [], [21], [], []⟩
 | 6 => ⟨[21], [], [10], [22], [(10, 1)], []⟩
 | 7 => ⟨[22], [], [], [23], [], []⟩
 | 8 => ⟨[20, 23], [], [], [24], [], []⟩
 | 9 => ⟨[18, 24], [], [10], [25], [(10, 1)], []⟩
 | 10 => ⟨[2, 16], [(2, 1)], [], [], [(2, 1)], []⟩
 | 11 => ⟨[17], [], [7], [3], [(7, 1)], []⟩
 | 12 => ⟨[25], [], [25], [4], [(25, 1)], []⟩
 | _ => ⟨[], [], [], [], [], []⟩
set_option maxRecDepth 8000 in
set_option maxHeartbeats 0 in
theorem DrawSumUp_c (bs : List Int) (hby : BytesOk bs) : ACalls Tryz.prog 15 [.c (codeC bs)] SmP := by -- params []uint8
 refine acalls_of (by simp [Arg.isIo]) Tryz.func15 rfl (by rw [Tryz.ntmps15]; simp) fun w0 => ?_
 rw [Tryz.ntmps15]
 have dfx := dfxWdr
 simp only [initE, argsL, Arg.av, codeC]
 refine dw_seq (dwR fun K hK => ?_)
 repeat refine evF ?_
 refine aops_end (hK _ (dwK [0, 2] ?_))
 clear hK K
 refine dw_seq (dwR fun K hK => ?_)
 repeat refine evF ?_
 refine aops_end (hK _ (dwK [2, 5, 10] ?_))
 clear hK K
 refine dw_seq (dwR fun K hK => ?_)
 repeat refine evF ?_
 refine ciaF rfl ⟨rfl, _, rfl⟩ (by omega) (by first | exact may41) (rootedNet_c bs 0 0 _ hby (Nat.zero_le 0) (by omega)) ?_
 rintro _ ⟨p1, s1, _, rfl, hp1, N, ps, rfl, htm, hps⟩
 refine ioF ?_
 repeat refine evF ?_
 refine aops_end (hK _ (dwK [2, 5, 6, 7, 10] ?_))
 clear hK K
 have dfx := And.intro dfx (@DrawSumUpSt3.eq_def)
 refine dw_seq (dwRD DrawSumUpSt3 (fun j r => match j with | 6 => CurO bs (800000000000000000 + 2) (fun rs => ∃ x, rs = [.c (.p (.int .i64 x))] ∧ 0 ≤ x.tdiv 23 ∧ x.tdiv 23 ≤ 1) r | 9 => CurO bs (800000000000000000 + 2 + 5000) ValP r | _ => True) fun K hK => ?_)
 repeat refine dvF ?_
 have dfx := And.intro dfx (@DrawSumUpSt3.eq_def)
 refine disF rfl ⟨rfl, _, rfl⟩ (by omega) (by first | exact may43 | exact may42) (pick24_c bs p1 s1 (800000000000000000) hby (by omega) (by omega)) (CurO.ex ⟨_, 0, rfl, by decide, by decide⟩) ?_
 rintro _ ⟨p2, s2, _, rfl, hp2, x2, rfl, hx2, hx3⟩
 refine dioF ?_
 repeat refine dvF ?_
 have dfx := And.intro dfx (@DrawSumUpSt3.eq_def)
 refine diaF rfl ⟨rfl, _, rfl⟩ (by omega) (by first | exact may43 | exact may42) (values_c bs p2 s2 (((ps.length : Int) + x2.tdiv 23).toNat) ((ps.length : Int) + x2.tdiv 23) (800000000000000000 + 2) (by omega) (by omega) hby (by omega) (by omega)) (CurO.ex ⟨_, [], rfl, by simp⟩) ?_
 rintro _ ⟨p3, s3, _, rfl, hp3, vs, rfl, hvs⟩
 refine dioF ?_
 repeat refine dvF ?_
 refine dops_end (hK _ (dwK [2, 3, 4, 10] ?_))
 clear hK K
 exact dw_ret (fin_retA Tryz.results15 (.three (.cell 2 _ _ _ _ rfl rfl tab27 rfl rfl rfl) (.re _ _ (.own _ _ _ _ rfl rfl (own1 (owned_ints _ _)))) (.re _ _ (.own _ _ _ _ rfl rfl (own1 (owned_ints _ _))))) (by decide) ⟨N, ps, vs, rfl, htm, hps, hvs⟩)
end
section
open Go Go.RowKit
theorem sumToZ (f : Nat → Int) : sumTo 0 f = 0 := rfl
theorem mxIZ (ds : List Int) : mxI ds 0 = 0 := rfl
theorem dfxLaWaves : type_of% (And.intro tab27 (And.intro @rowi (And.intro tab24 (And.intro tab67 (And.intro @if_pos.{1} (And.intro tab25 (And.intro tab3 (And.intro @netZ.eq_1 (And.intro bool4 (And.intro @bne_self_eq_false.{0} (And.intro @beq_self_eq_true.{0} (And.intro @Bool.not_true (And.intro @Bool.true_beq (And.intro @Bool.false_beq (And.intro @getDi @trivial))))))))))))))) := And.intro tab27 (And.intro @rowi (And.intro tab24 (And.intro tab67 (And.intro @if_pos.{1} (And.intro tab25 (And.intro tab3 (And.intro @netZ.eq_1 (And.intro bool4 (And.intro @bne_self_eq_false.{0} (And.intro @beq_self_eq_true.{0} (And.intro @Bool.not_true (And.intro @Bool.true_beq (And.intro @Bool.false_beq (And.intro @getDi @trivial))))))))))))))
set_option maxRecDepth 8000 in
set_option maxHeartbeats 0 in
theorem FnWaves_c (a b : List Int) (hA : BytesAny a) (hB : BytesAny b) : ACalls Tryz.prog 3 [.c (codeC a), .c (codeC b)] (fun r => r = [.c (.p (.bool true))]) := by
 refine acalls_of (by simp [Arg.isIo]) Tryz.func3 rfl (by rw [Tryz.ntmps3]; simp) fun w0 => ?_
 rw [Tryz.ntmps3]
 have dfx := dfxLaWaves
 simp only [initE, argsL, Arg.av, codeC]
 refine dw_seq (dwR fun K hK => ?_)
 repeat refine evF ?_
 refine aops_end (hK _ (dwK [0, 1] ?_))
 clear hK K
 refine dw_seq ?_
 refine dw_seq (dwR fun K hK => ?_)
 repeat refine evF ?_
 refine clF rfl ⟨rfl, _, rfl⟩ (by omega) (by first | exact may5) (big_d a b hA) ?_
 rintro _ rfl
 repeat refine evF ?_
 refine aops_end (hK _ (dwK [0, 1, 47] ?_))
 clear hK K
 refine dwI (fun hb => ?_) (fun hb => ?_)
 ·refine dw_seq (dwR fun K hK => ?_)
  repeat refine evF ?_
  refine aops_end (hK _ (dwK [4] ?_))
  clear hK K
  exact dw_ret (fin_retA Tryz.results3 (.one (.re _ _ (.plain _ _ rfl))) (by decide) rfl)
 ·obtain ⟨hby, hby2⟩ := bigB_no hb hA hB
  refine dw_skip ?_
  show DW _ _ _ _ _
  refine dw_seq (dwR fun K hK => ?_)
  repeat refine evF ?_
  refine caF rfl ⟨rfl, _, rfl⟩ (by omega) (by first | exact may6) (DrawWaveFrom_c a hby) ?_
  rintro _ ⟨N, x, rfl, htm⟩
  repeat refine evF ?_
  refine aops_end (hK _ (dwK [1, 5, 6] ?_))
  clear hK K
  obtain ⟨P, D, m, ok, hW⟩ := waveRs_ex N x
  have hln := htm.len
  have hli := htm.ids
  refine dw_seq (dwR fun K hK => ?_)
  repeat refine evF ?_
  refine clF rfl ⟨rfl, _, rfl⟩ (by omega) (by first | exact may7) (implWave_d NFz N x (by omega) (by omega) hW) ?_
  rintro _ rfl
  repeat refine evF ?_
  refine aops_end (hK _ (dwK [1, 5, 6, 7, 8, 9, 10] ?_))
  clear hK K
  refine dw_seq (dwR fun K hK => ?_)
  repeat refine evF ?_
  refine clF rfl ⟨rfl, _, rfl⟩ (by omega) (by first | exact may8) (specWave_d NFz N x hW) ?_
  rintro _ rfl
  repeat refine evF ?_
  refine aops_end (hK _ (dwK [1, 5, 6, 7, 8, 9, 10, 11, 12, 13, 14] ?_))
  clear hK K
  have hPD : P.length ≤ 1000 ∧ D.length ≤ 1000 := by
   rcases hW with ⟨v, rfl, hv, hg, rfl, rfl, -⟩ | ⟨-, rfl, rfl, -⟩
   ·exact ⟨by rw [wpar_len]; omega, by rw [(dists_is (goodB_fine hg).sym hv).len]; omega⟩
   ·simp
  obtain ⟨hPl, hDl⟩ := hPD
  have hPP := sameL_self P
  have hDD := sameL_self D
  refine dw_seq ?_
  refine dw_seq (dwR fun K hK => ?_)
  repeat refine evF ?_
  refine cgF rfl rfl ⟨rfl, _, rfl⟩ (by omega) (by first | exact may9) (sameInts_d true 3 P true 3 P (by omega) (by omega)) ?_
  rintro _ rfl
  repeat refine evF ?_
  have dfx := And.intro dfx (@hPP)
  repeat refine evF ?_
  have dfx := And.intro dfx (@hPP)
  refine cgF rfl rfl ⟨rfl, _, rfl⟩ (by omega) (by first | exact may9) (sameInts_d true 3 D true 3 D (by omega) (by omega)) ?_
  rintro _ rfl
  repeat refine evF ?_
  have dfx := And.intro dfx (And.intro @hPP @hDD)
  repeat refine evF ?_
  have dfk := And.intro @hPP @hDD
  refine aops_end (hK _ (dwKF [1, 5, 6, 7, 8, 10, 88] ?_))
  clear hK K
  refine dwI (fun hb => ?_) (fun hb => ?_)
  ·cases hb
  ·refine dw_skip ?_
   show DW _ _ _ _ _
   refine dw_join (X := Unit) (fun z => True) (fun z => mkE 268 [(1, .c (.sl false 5 1 (b.map bC)))] []) ?_ ?_
   ·rcases hW with ⟨v, rfl, hv, hg, rfl, rfl, rfl, rfl⟩ | ⟨hno, rfl, rfl, rfl, rfl⟩
    ·have hs : Sym N.ends := (goodB_fine hg).sym
     have hgl := good_len hg
     obtain ⟨cn, hcn⟩ : ∃ cn, cn = connB N v := ⟨_, rfl⟩
     obtain ⟨tr, tds, hT, hTc⟩ : ∃ (tr : Nat) (tds : List Int), TreeRs N (wpar N v) tr tds cn ∧ (cn = true → tr = v ∧ tds = dists N v) := by
      cases cn with
      | true => exact ⟨v, dists N v, .inl ⟨wave_tree hs hv ((connB_iff hs hv).1 hcn.symm), rfl⟩, fun _ => ⟨rfl, rfl⟩⟩
      | false =>
       refine ⟨0, [], .inr ⟨fun hh => ?_, rfl, rfl, rfl⟩, fun h => by cases h⟩
       have hc : connB N v = true := by
        refine (connB_iff hs hv).2 fun w hw => ?_
        rcases Int.lt_or_le (gi (dists N v) w) 0 with h | h
        ·exact absurd hh (wave_no_tree hs hv hw h)
        ·exact h
       rw [hc] at hcn; cases hcn
     refine dw_seq (dwR fun K hK => ?_)
     repeat refine evF ?_
     refine aops_end (hK _ (dwK [1, 5, 6, 7, 8, 89] ?_))
     clear hK K
     refine dwI (fun hb => ?_) (fun hb => ?_)
     ·refine dw_seq (dwR fun K hK => ?_)
      repeat refine evF ?_
      refine clF rfl ⟨rfl, _, rfl⟩ (by omega) (by first | exact may10) (DistancesFrom_d NFz N v hg hv) ?_
      rintro _ rfl
      repeat refine evF ?_
      refine aops_end (hK _ (dwK [1, 5, 6, 7, 8, 15, 16] ?_))
      clear hK K
      refine dw_seq (dwR fun K hK => ?_)
      repeat refine evF ?_
      refine clF rfl ⟨rfl, _, rfl⟩ (by omega) (by first | exact may11) (IsConnected_d NFz N hg hv) ?_
      rintro _ rfl
      repeat refine evF ?_
      have dfk := (Eq.symm hcn)
      refine aops_end (hK _ (dwKF [1, 5, 6, 7, 8, 15, 16, 17, 18] ?_))
      clear hK K
      refine dw_seq (dwR fun K hK => ?_)
      repeat refine evF ?_
      refine clF rfl ⟨rfl, _, rfl⟩ (by omega) (by first | exact may12) (TreeRoot_d NFz N true 3 (wpar N v) hg hT) ?_
      rintro _ rfl
      repeat refine evF ?_
      refine aops_end (hK _ (dwK [1, 5, 6, 7, 8, 15, 16, 17, 18, 19, 20] ?_))
      clear hK K
      refine dw_seq ?_
      cases cn with
      | true =>
       obtain ⟨rfl, rfl⟩ := hTc rfl
       refine dw_seq (dwR fun K hK => ?_)
       repeat refine evF ?_
       refine cgF rfl rfl ⟨rfl, _, rfl⟩ (by omega) (by first | exact may9) (sameInts_d true 3 (dists N tr) true 3 (dists N tr) (by omega) (by omega)) ?_
       rintro _ rfl
       repeat refine evF ?_
       have dfx := And.intro dfx (@hDD)
       repeat refine evF ?_
       have dfk := @hDD
       refine aops_end (hK _ (dwKF [1, 5, 7, 8, 17, 131] ?_))
       clear hK K
       refine dwI (fun hb => ?_) (fun hb => ?_)
       ·cases hb
       ·refine dw_skip ?_
        show DW _ _ _ _ _
        refine dw_seq (dwR fun K hK => ?_)
        repeat refine evF ?_
        refine aops_end (hK _ (dwK [1, 5, 7, 8, 132] ?_))
        clear hK K
        refine dwI (fun hb => ?_) (fun hb => ?_)
        ·have ht := wave_tree hs hv ((connB_iff hs hv).1 hcn.symm)
         obtain ⟨s, h, bt, hI⟩ := tree_sums (vals := List.replicate N.ends.length 1) hg ht
         have hbits : 0 ≤ bt ∧ bt ≤ 1000000 := by
          obtain ⟨r, ds, t, f, mx, rfl⟩ := hI
          have h1 := bitsPart_le r s (wpar N tr).length
          have h2 : (wpar N tr).length = N.ends.length := wpar_len
          omega
         have hO : SumOk N (wpar N tr) (List.replicate N.ends.length 1) := ⟨hg, ⟨_, _, ht⟩, by rw [List.length_replicate, wpar_len], allB_iff.2 fun k hk => by
          rw [gi_rep1 (by simpa using hk)]; exact inB_iff.2 (by omega)⟩
         refine dw_seq (dwR fun K hK => ?_)
         repeat refine evF ?_
         refine clF rfl ⟨rfl, _, rfl⟩ (by omega) (by first | exact may13) (CountUp_d NFz N true 3 (wpar N tr) (by omega) (by omega) hbits.1 hbits.2 (.inl ⟨hO, hI, rfl⟩)) ?_
         rintro _ rfl
         repeat refine evF ?_
         refine aops_end (hK _ (dwK [1, 5, 7, 8, 21, 23] ?_))
         clear hK K
         refine dw_seq (dwR fun K hK => ?_)
         repeat refine evF ?_
         refine clF rfl ⟨rfl, _, rfl⟩ (by omega) (by first | exact may14) (TreeDepths_d NFz N true 3 (wpar N tr) hg hT) ?_
         rintro _ rfl
         repeat refine evF ?_
         refine aops_end (hK _ (dwK [1, 5, 8, 21, 23, 24, 25] ?_))
         clear hK K
         refine dw_seq (dwR fun K hK => ?_)
         repeat refine evF ?_
         refine cgF rfl rfl ⟨rfl, _, rfl⟩ (by omega) (by first | exact may9) (sameInts_d true 3 (dists N tr) true 3 (dists N tr) (by omega) (by omega)) ?_
         rintro _ rfl
         repeat refine evF ?_
         have dfx := And.intro dfx (@hDD)
         repeat refine evF ?_
         have dfk := @hDD
         refine aops_end (hK _ (dwKF [1, 164] ?_))
         clear hK K
         refine dwI (fun hb => ?_) (fun hb => ?_)
         ·cases hb
         ·refine dw_skip ?_
          show ∃ x, _ ∧ Weak _ _
          refine ⟨(), ?_, (weak_keep _ [1]).trans (Weak.of_eq (by simp only [bunK, C.at, C.put, List.dropLast, List.isPrefixOf, Nat.reduceMul, Nat.reduceLT, Nat.reduceLeDiff, Nat.reduceBEq, Nat.reduceEqDiff, reduceCtorEq, Nat.reduceAdd, ↓reduceIte] <;> exact rfl))⟩
          trivial
        ·cases hb
      | false =>
       refine dw_seq (dwR fun K hK => ?_)
       repeat refine evF ?_
       refine cgF rfl rfl ⟨rfl, _, rfl⟩ (by omega) (by first | exact may9) (sameInts_d true 3 (dists N v) true 3 (dists N v) (by omega) (by omega)) ?_
       rintro _ rfl
       repeat refine evF ?_
       have dfx := And.intro dfx (@hDD)
       repeat refine evF ?_
       have dfk := @hDD
       refine aops_end (hK _ (dwKF [1, 5, 7, 8, 17, 131] ?_))
       clear hK K
       refine dwI (fun hb => ?_) (fun hb => ?_)
       ·cases hb
       ·refine dw_skip ?_
        show DW _ _ _ _ _
        refine dw_seq (dwR fun K hK => ?_)
        repeat refine evF ?_
        refine aops_end (hK _ (dwK [1, 5, 7, 8, 132] ?_))
        clear hK K
        refine dwI (fun hb => ?_) (fun hb => ?_)
        ·cases hb
        ·refine dw_skip ?_
         show ∃ x, _ ∧ Weak _ _
         refine ⟨(), ?_, (weak_keep _ [1]).trans (Weak.of_eq (by simp only [bunK, C.at, C.put, List.dropLast, List.isPrefixOf, Nat.reduceMul, Nat.reduceLT, Nat.reduceLeDiff, Nat.reduceBEq, Nat.reduceEqDiff, reduceCtorEq, Nat.reduceAdd, ↓reduceIte] <;> exact rfl))⟩
         trivial
     ·cases hb
    ·refine dw_seq (dwR fun K hK => ?_)
     repeat refine evF ?_
     refine aops_end (hK _ (dwK [1, 5, 6, 7, 8, 89] ?_))
     clear hK K
     refine dwI (fun hb => ?_) (fun hb => ?_)
     ·cases hb
     ·refine dw_skip ?_
      show ∃ x, _ ∧ Weak _ _
      refine ⟨(), ?_, (weak_keep _ [1]).trans (Weak.of_eq (by simp only [bunK, C.at, C.put, List.dropLast, List.isPrefixOf, Nat.reduceMul, Nat.reduceLT, Nat.reduceLeDiff, Nat.reduceBEq, Nat.reduceEqDiff, reduceCtorEq, Nat.reduceAdd, ↓reduceIte] <;> exact rfl))⟩
      trivial
   ·rintro _ -
    refine dw_seq (dwR fun K hK => ?_)
    repeat refine evF ?_
    refine caF rfl ⟨rfl, _, rfl⟩ (by omega) (by first | exact may15) (DrawSumUp_c b hby2) ?_
    rintro _ ⟨M, ps, vs, rfl, htm2, hps, hvs⟩
    repeat refine evF ?_
    refine aops_end (hK _ (dwK [26, 27, 28] ?_))
    clear hK K
    obtain ⟨s, h, bt, ok2, hS⟩ := sumRs_ex M ps vs
    have hln2 := htm2.len
    have hli2 := htm2.ids
    refine dw_seq (dwR fun K hK => ?_)
    repeat refine evF ?_
    refine clF rfl ⟨rfl, _, rfl⟩ (by omega) (by first | exact may16) (implSumUp_d NFz M true 3 ps true 3 vs (by omega) (by omega) hS) ?_
    rintro _ rfl
    repeat refine evF ?_
    refine aops_end (hK _ (dwK [26, 27, 28, 29, 30, 31, 32] ?_))
    clear hK K
    refine dw_seq (dwR fun K hK => ?_)
    repeat refine evF ?_
    refine clF rfl ⟨rfl, _, rfl⟩ (by omega) (by first | exact may17) (specSumUp_d NFz M true 3 ps true 3 vs hS) ?_
    rintro _ rfl
    repeat refine evF ?_
    refine aops_end (hK _ (dwK [26, 27, 28, 29, 30, 31, 32, 33, 34, 35, 36] ?_))
    clear hK K
    have hsl : s.length ≤ 1000 := by
     rcases hS with ⟨hok, hi, -⟩ | ⟨-, rfl, -⟩
     ·obtain ⟨r, ds, t, f, -⟩ := hi
      rw [f.1]; omega
     ·simp
    have hss := sameL_self s
    refine dw_seq ?_
    refine dw_seq (dwR fun K hK => ?_)
    repeat refine evF ?_
    refine cgF rfl rfl ⟨rfl, _, rfl⟩ (by omega) (by first | exact may9) (sameInts_d true 3 s true 3 s (by omega) (by omega)) ?_
    rintro _ rfl
    repeat refine evF ?_
    have dfx := And.intro dfx (@hss)
    repeat refine evF ?_
    have dfk := @hss
    refine aops_end (hK _ (dwKF [26, 27, 28, 29, 30, 32, 207] ?_))
    clear hK K
    refine dwI (fun hb => ?_) (fun hb => ?_)
    ·cases hb
    ·refine dw_skip ?_
     show DW _ _ _ _ _
     refine dw_seq ?_
     refine dw_seq (dwR fun K hK => ?_)
     repeat refine evF ?_
     refine aops_end (hK _ (dwK [26, 27, 28, 29, 30, 208] ?_))
     clear hK K
     rcases hS with ⟨hok, hI, rfl⟩ | ⟨-, -, -, -, rfl⟩
     ·have hg2 := hok.1
      obtain ⟨r, ds, ht, hrs, hrt, hmx⟩ := hI.root hg2
      have hdl : ds.length = ps.length := ht.2.2.2.2.1
      have hvl : vs.length = ps.length := hok.2.2.1
      have hvb : ∀ i, i < vs.length → -(1000000 : Nat) ≤ gi vs i ∧ gi vs i ≤ (1000000 : Nat) := fun i hi => by
       have := inB_iff.1 (allB_iff.1 hok.2.2.2 i hi)
       omega
      have hT : TreeRs M ps r ds true := .inl ⟨ht, rfl⟩
      refine dwI (fun hb => ?_) (fun hb => ?_)
      ·refine dw_seq (dwR fun K hK => ?_)
       repeat refine evF ?_
       refine clF rfl ⟨rfl, _, rfl⟩ (by omega) (by first | exact may12) (TreeRoot_d NFz M true 3 ps hg2 hT) ?_
       rintro _ rfl
       repeat refine evF ?_
       refine aops_end (hK _ (dwK [26, 27, 28, 29, 30, 37, 38] ?_))
       clear hK K
       refine dw_seq (dwR fun K hK => ?_)
       repeat refine evF ?_
       refine clF rfl ⟨rfl, _, rfl⟩ (by omega) (by first | exact may14) (TreeDepths_d NFz M true 3 ps hg2 hT) ?_
       rintro _ rfl
       repeat refine evF ?_
       refine aops_end (hK _ (dwK [28, 29, 30, 37, 38, 39, 40] ?_))
       clear hK K
       refine dw_seq (dwR fun K hK => ?_)
       repeat refine evF ?_
       refine aops_end (hK _ (dwK [28, 29, 30, 37, 38, 39, 40, 41, 42] ?_))
       clear hK K
       refine dw_seq ?_
       refine dw_seq (dwR fun K hK => ?_)
       repeat refine evF ?_
       refine aops_end (hK _ (dwK [28, 29, 30, 37, 38, 39, 40, 41, 42, 221, 222, 223] ?_))
       clear hK K
       refine dw_block ?_
       refine dw_loopP (X := Nat) (fun k => k ≤ vs.length) (fun k => [(41, .c (.p (.int .i64 (sumTo k (gi vs))))), (42, .c (.p (.int .i64 (mxI ds k)))), (223, .c (.p (.int .i64 k)))]) (fun k => []) (fun k => vs.length - k) 0 (Nat.zero_le _) (by first | rfl | (simp only [bunK, C.at, C.put, List.dropLast, List.isPrefixOf, Nat.reduceMul, Nat.reduceLT, Nat.reduceLeDiff, Nat.reduceBEq, Nat.reduceEqDiff, reduceCtorEq, Nat.reduceAdd, ↓reduceIte, Int.natCast_zero, sumToZ, mxIZ] <;> rfl)) ?_
       rintro k hk
       intro E hE
       simp only [bunK, C.at, C.put, List.dropLast, List.isPrefixOf, Nat.reduceMul, Nat.reduceLT, Nat.reduceLeDiff, Nat.reduceBEq, Nat.reduceEqDiff, reduceCtorEq, Nat.reduceAdd, ↓reduceIte] at hE
       subst hE
       have hsb := sumTo_bnd (f := gi vs) (c := 1000000) k fun i hi => hvb i (by omega)
       have hkb : k * 1000000 ≤ 1000 * 1000000 := Nat.mul_le_mul_right _ (by omega)
       refine dw_seq (dwR fun K hK => ?_)
       repeat refine evF ?_
       refine aops_end (hK _ (dwK [28, 29, 30, 37, 38, 39, 40, 41, 42, 221, 222, 223, 224] ?_))
       clear hK K
       refine dw_seq (dwI (fun hb => ?_) (fun hb => ?_))
       ·have hkl : k < vs.length := by simpa using hb
        have hkd : k < ds.length := by omega
        have hvk := hvb k hkl
        have hst : sumTo (k + 1) (gi vs) = sumTo k (gi vs) + gi vs k := rfl
        refine dw_skip ?_
        show DW _ _ _ _ _
        refine dw_seq (dw_block ?_)
        refine dw_seq (dwR fun K hK => ?_)
        repeat refine evF ?_
        refine aops_end (hK _ (dwK [28, 29, 30, 37, 38, 39, 40, 41, 42, 43, 44, 221, 222, 223] ?_))
        clear hK K
        refine dw_seq (dwR fun K hK => ?_)
        repeat refine evF ?_
        refine aops_end (hK _ (dwK [28, 29, 30, 37, 38, 39, 40, 41, 42, 43, 221, 222, 223] ?_))
        clear hK K
        have hkt : decide ((k : Int) < (ds.length : Int)) = true := by simpa using hkd
        have dfx := And.intro dfx (@hkt)
        refine dw_seq (dwR fun K hK => ?_)
        repeat refine evF ?_
        have dfk := @hkt
        refine aops_end (hK _ (dwKF [28, 29, 30, 37, 38, 39, 40, 41, 42, 43, 221, 222, 223, 245] ?_))
        clear hK K
        refine dwI (fun hb => ?_) (fun hb => ?_)
        ·have hm1 : mxI ds (k + 1) = gi ds k := by
          have : mxI ds k < gi ds k := by simpa using hb
          rw [mxI, if_pos this]
         refine dwR fun K hK => ?_
         repeat refine evF ?_
         refine aops_end (hK _ (dwK [28, 29, 30, 37, 38, 39, 40, 41, 42, 221, 222, 223] ?_))
         clear hK K
         refine dwR fun K hK => ?_
         repeat refine evF ?_
         have dfk := And.intro @castS (And.intro @hst @hm1)
         refine aops_end (hK _ ?_)
         clear hK K
         show ∃ x, _ ∧ _ ∧ Weak _ _
         refine ⟨k + 1, ?_, ?_, weakFk [28, 29, 30, 37, 38, 39, 40, 41, 42, 221, 222, 223]⟩
         ·exact hkl
         ·omega
        ·have hm1 : mxI ds (k + 1) = mxI ds k := by
          have : ¬ mxI ds k < gi ds k := by simpa using hb
          rw [mxI, if_neg this]
         refine dw_skip ?_
         show DW _ _ _ _ _
         refine dwR fun K hK => ?_
         repeat refine evF ?_
         have dfk := And.intro @castS (And.intro @hst @hm1)
         refine aops_end (hK _ ?_)
         clear hK K
         show ∃ x, _ ∧ _ ∧ Weak _ _
         refine ⟨k + 1, ?_, ?_, weakFk [28, 29, 30, 37, 38, 39, 40, 41, 42, 221, 222, 223]⟩
         ·exact hkl
         ·omega
       ·have hkl : k = vs.length := by
         have : ¬ (k : Int) < (vs.length : Int) := by simpa using hb
         omega
        subst hkl
        have hfin : mxI ds vs.length = h := by rw [hvl, ← hdl]; exact mxI_max hmx fun j hj => (ht.zero (by omega)).2.1
        have htot : gi s r = sumTo vs.length (gi vs) := by rw [hvl]; exact hrt
        refine dw_leave3 ?_
        refine dwK [29, 30, 37, 38, 40, 41, 42] ?_
        rw [hfin, ← htot]
        refine dw_seq (dwR fun K hK => ?_)
        repeat refine evF ?_
        refine aops_end (hK _ (dwK [4] ?_))
        clear hK K
        exact dw_ret (fin_retA Tryz.results3 (.one (.re _ _ (.plain _ _ rfl))) (by decide) rfl)
      ·cases hb
     ·refine dwI (fun hb => ?_) (fun hb => ?_)
      ·cases hb
      ·refine dw_skip ?_
       show DW _ _ _ _ _
       refine dw_seq (dwR fun K hK => ?_)
       repeat refine evF ?_
       refine aops_end (hK _ (dwK [4] ?_))
       clear hK K
       exact dw_ret (fin_retA Tryz.results3 (.one (.re _ _ (.plain _ _ rfl))) (by decide) rfl)
theorem lawWaves (v0 v1 : Value) (L0 L1 : Nat) (w : World) (h0 : BytR w v0 L0) (h1 : BytR w v1 L1) : Calls Tryz.prog 3 #[v0, v1] w (RetV w (.bool true)) := law_of (fun a b hA hB => FnWaves_c a b hA hB) h0 h1
end
end Go.Proofs.YtlaahgdikiiahaaGreat
