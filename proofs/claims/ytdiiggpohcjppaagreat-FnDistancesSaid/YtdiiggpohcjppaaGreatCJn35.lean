/- Parts of the proof, joined: Dne, Dan, Dplc, Ddc, Ddd, Dpb. -/
import Derived.Test.YtdiiggpohcjppaaGreatCJn34
import Derived.Test.YtdiiggpohcjppaaGreatCJn32
import Derived.Test.YtdiiggpohcjppaaGreatCDt
import Derived.Test.YtdiiggpohcjppaaGreatCJn9
set_option linter.unusedSimpArgs false
set_option linter.unusedVariables false
namespace Go.Proofs.YtdiiggpohcjppaaGreat
section
open Go Go.RowKit
def netSt11 : Nat → Stat
 | 0 => ⟨[5], [(5, 1)], [], [35], [], []⟩
 | 1 => ⟨[0], [], [], [36], [], []⟩
 | 2 => ⟨[1], [], [], [37], [], []⟩
 | 3 => ⟨[37], [], [], [38], [], []⟩
 | 4 => ⟨[38], [], [], [39], [], []⟩
 | 5 => ⟨[36, 39], [], [95], [40], [(95, 1)], []⟩
 | 6 => ⟨[35, 40], [], [5, 40], [41], [], []⟩
 | 7 => ⟨[4, 41], [(4, 1)], [41], [], [(4, 1), (41, 1)], []⟩
 | _ => ⟨[], [], [], [], [], []⟩
def netSt16 : Nat → Stat
 | 0 => ⟨[0], [], [], [57], [], []⟩
 | 1 => ⟨[6], [(6, 1)], [], [58], [], []⟩
 | 2 => ⟨[58], [(6, 1)], [], [59], [], []⟩
 | 3 => ⟨[59], [(6, 1)], [], [60], [], []⟩
 | 4 => ⟨[57, 60], [], [95], [61], [(95, 1)], []⟩
 | 5 => ⟨[0], [], [], [62], [], []⟩
 | 6 => ⟨[6], [(6, 1)], [], [63], [], []⟩
 | 7 => ⟨[63], [(6, 1)], [], [64], [], []⟩
 | 8 => ⟨[64], [(6, 1)], [], [65], [], []⟩
 | 9 => ⟨[62, 65], [], [95], [66], [(95, 1)], []⟩
 | 10 => ⟨[61], [], [], [8], [], []⟩
 | 11 => ⟨[66], [], [], [9], [], []⟩
 | _ => ⟨[], [], [], [], [], []⟩
theorem dfxDne : type_of% (And.intro tab27 (And.intro @rowi (And.intro tab24 (And.intro tab82 (And.intro @if_pos.{1} (And.intro tab35 (And.intro @netO.eq_1 @trivial))))))) := And.intro tab27 (And.intro @rowi (And.intro tab24 (And.intro tab82 (And.intro @if_pos.{1} (And.intro tab35 (And.intro @netO.eq_1 @trivial))))))
set_option maxRecDepth 8000 in
set_option maxHeartbeats 0 in
theorem net_c (bs : List Int) (p : Nat) (s : Int) (m : Nat) (z : Int) (B : Nat) (hz : z = m) (hby : BytesOk bs) (hp : p ≤ B) (hB : B + 576460752303423488 ≤ 4611686018427387900) (hm1 : 1 ≤ m) (hm2 : m ≤ 38) : ACalls Tryz.prog 96 [.io 76 (curC bs p s), .c (.p (.int .i64 z))] (CurO bs (B + 576460752303423488) fun rs => ∃ N, rs = [.own true (netO N)] ∧ Drawn (m + 2) 400 N) := by
 subst hz
 have hmq : (m : Int).tdiv 2 + 1 = ((m / 2 + 1 : Nat) : Int) := by rw [Int.tdiv_eq_ediv_of_nonneg (by omega)]; omega
 refine iocalls_of Tryz.func96 rfl (by rw [Tryz.ntmps96]; simp) fun w0 => ?_
 rw [Tryz.ntmps96]
 have dfx := dfxDne
 simp only [initIO, argsL, Arg.av, curC]
 refine dw_seq (dwR fun K hK => ?_)
 repeat refine evF ?_
 refine aops_end (hK _ (dwK [0, 1, 4, 95] ?_))
 clear hK K
 refine dw_seq ?_
 refine dw_seq (dwR fun K hK => ?_)
 repeat refine evF ?_
 refine cisF rfl ⟨rfl, _, rfl⟩ (by omega) (by first | exact may52) (pick_c bs p s 6 _ hby hp (by omega)) ?_
 rintro _ ⟨p1, s1, _, rfl, hp1, x1, rfl, hx1⟩
 refine ioF ?_
 repeat refine evF ?_
 refine aops_end (hK _ (dwK [0, 1, 4, 11, 95] ?_))
 clear hK K
 refine dw_block ?_
 refine dw_seq (dwR fun K hK => ?_)
 repeat refine evF ?_
 refine aops_end (hK _ (dwK [0, 1, 4, 11, 12, 95] ?_))
 clear hK K
 refine dwI (fun hb => ?_) (fun hb => ?_)
 ·refine dw_seq (dwR fun K hK => ?_)
  repeat refine evF ?_
  refine ciaF rfl ⟨rfl, _, rfl⟩ (by omega) (by first | exact may126) (ring_c bs p1 s1 m _ (B + 2) rfl hby hp1 (by omega) (by omega) (by omega)) ?_
  rintro _ ⟨p2, s2, _, rfl, hp2, N2, rfl, ht2⟩
  refine ioF ?_
  repeat refine evF ?_
  refine aops_end (hK _ (dwK [4, 95] ?_))
  clear hK K
  exact dw_ret (fin_retIO Tryz.results96 Tryz.ntmps96 (.one (.re _ _ (.cell 4 _ _ _ _ rfl rfl tab27 rfl rfl (netO_owned N2)))) (by decide) (by decide) rfl rfl rfl ⟨p2, s2, _, rfl, by omega, N2, rfl, ht2.mono (by omega) (by omega)⟩)
 ·refine dw_seq (dwR fun K hK => ?_)
  repeat refine evF ?_
  refine aops_end (hK _ (dwK [0, 1, 4, 11, 17, 95] ?_))
  clear hK K
  refine dwI (fun hb => ?_) (fun hb => ?_)
  ·refine dw_seq (dwR fun K hK => ?_)
   repeat refine evF ?_
   refine ciaF rfl ⟨rfl, _, rfl⟩ (by omega) (by first | exact may124) (tree_c bs p1 s1 m _ (B + 2) rfl hby hp1 (by omega) (by omega) (by omega)) ?_
   rintro _ ⟨p3, s3, _, rfl, hp3, N3, rfl, ht3⟩
   refine ioF ?_
   repeat refine evF ?_
   refine aops_end (hK _ (dwK [4, 95] ?_))
   clear hK K
   exact dw_ret (fin_retIO Tryz.results96 Tryz.ntmps96 (.one (.re _ _ (.cell 4 _ _ _ _ rfl rfl tab27 rfl rfl (netO_owned N3)))) (by decide) (by decide) rfl rfl rfl ⟨p3, s3, _, rfl, by omega, N3, rfl, ht3.mono (by omega) (by omega)⟩)
  ·refine dw_join (X := Bool) (fun b => True) (fun b => mkE 95 [(0, .ptr 95 0 [(0, 0)] 0), (1, .c (.p (.int .i64 m))), (4, .box), (11, .c (.p (.int .i64 x1))), (22, .c (.p (.bool b))), (95, .dead)] [((4, 0), ⟨some 27, [.p (.slice none 0 0), .p (.slice none 0 0), .p (.slice none 0 0)]⟩), ((95, 0), ⟨some 76, [.sl false 5 1 (bs.map bC), .p (.int .i64 p1), .p (.int .u64 s1)]⟩)]) ?_ ?_
   ·refine dw_seq (dwR fun K hK => ?_)
    repeat refine evF ?_
    refine aops_end (hK _ (dwK [0, 1, 4, 11, 22, 95] ?_))
    clear hK K
    refine dwI (fun hb => ?_) (fun hb => ?_)
    ·refine dw_skip ?_
     show ∃ x, _ ∧ Weak _ _
     refine ⟨(x1 == (2 : Int)), ?_, (weak_keep _ [0, 1, 4, 11, 22, 95]).trans (Weak.of_eq (by simp only [bunK, C.at, C.put, List.dropLast, List.isPrefixOf, Nat.reduceMul, Nat.reduceLT, Nat.reduceLeDiff, Nat.reduceBEq, Nat.reduceEqDiff, reduceCtorEq, Nat.reduceAdd, ↓reduceIte] <;> exact rfl))⟩
     trivial
    ·refine dwR fun K hK => ?_
     repeat refine evF ?_
     refine aops_end (hK _ ?_)
     clear hK K
     show ∃ x, _ ∧ Weak _ _
     refine ⟨(x1 == (3 : Int)), ?_, (weak_keep _ [0, 1, 4, 11, 22, 95]).trans (Weak.of_eq (by simp only [bunK, C.at, C.put, List.dropLast, List.isPrefixOf, Nat.reduceMul, Nat.reduceLT, Nat.reduceLeDiff, Nat.reduceBEq, Nat.reduceEqDiff, reduceCtorEq, Nat.reduceAdd, ↓reduceIte] <;> exact rfl))⟩
     trivial
   ·rintro b -
    refine dwI (fun hb => ?_) (fun hb => ?_)
    ·refine dw_seq (dwR fun K hK => ?_)
     repeat refine evF ?_
     refine ciaF rfl ⟨rfl, _, rfl⟩ (by omega) (by first | exact may125) (simple_c bs p1 s1 m _ (B + 2) rfl hby hp1 (by omega) (by omega) (by omega)) ?_
     rintro _ ⟨p5, s5, _, rfl, hp5, N5, rfl, ht5⟩
     refine ioF ?_
     repeat refine evF ?_
     refine aops_end (hK _ (dwK [4, 95] ?_))
     clear hK K
     exact dw_ret (fin_retIO Tryz.results96 Tryz.ntmps96 (.one (.re _ _ (.cell 4 _ _ _ _ rfl rfl tab27 rfl rfl (netO_owned N5)))) (by decide) (by decide) rfl rfl rfl ⟨p5, s5, _, rfl, by omega, N5, rfl, ht5.mono (by omega) (by omega)⟩)
    ·refine dw_seq (dwR fun K hK => ?_)
     repeat refine evF ?_
     refine aops_end (hK _ (dwK [0, 1, 4, 28, 95] ?_))
     clear hK K
     refine dwI (fun hb => ?_) (fun hb => ?_)
     ·have dfx := And.intro dfx (@hmq)
      refine dw_seq (dwR fun K hK => ?_)
      repeat refine evF ?_
      have dfx := And.intro dfx (@hmq)
      refine ciaF rfl ⟨rfl, _, rfl⟩ (by omega) (by first | exact may125) (simple_c bs p1 s1 (m / 2 + 1) _ (B + 2) rfl hby hp1 (by omega) (by omega) (by omega)) ?_
      rintro _ ⟨p6, s6, _, rfl, hp6, N6, rfl, ht6⟩
      refine ioF ?_
      repeat refine evF ?_
      refine aops_end (hK _ (dwK [0, 1, 4, 5, 95] ?_))
      clear hK K
      have hs6 : Small N6 := ht6.small (by omega) (by omega)
      have dfx := And.intro dfx (And.intro @netSt11.eq_def @hmq)
      refine dw_seq (dwRD netSt11 (fun j r => match j with | 5 => CurO bs (B + 2 + 144115188075855872 + 72057594037927936) (fun rs => ∃ N, rs = [.own true (netO N)] ∧ Drawn (m / 2 + 1) 80 N) r | 6 => ∃ U, r = [.own true (netO U)] ∧ Drawn (m + 2) 400 U | _ => True) fun K hK => ?_)
      repeat refine dvF ?_
      have dfx := And.intro dfx (And.intro @netSt11.eq_def @hmq)
      refine diaF rfl ⟨rfl, _, rfl⟩ (by omega) (by first | exact may126 | exact may140) (ring_c bs p6 s6 (m / 2 + 1) _ (B + 2 + 144115188075855872) rfl hby hp6 (by omega) (by omega) (by omega)) (CurO.ex ⟨_, emptyN 1, rfl, (Drawn.empty (Nat.le_refl _) (by omega)).mono (Nat.le_refl _) (by omega)⟩) ?_
      rintro _ ⟨p7, s7, _, rfl, hp7, N7, rfl, ht7⟩
      refine dioF ?_
      repeat refine dvF ?_
      have dfx := And.intro dfx (And.intro @netSt11.eq_def @hmq)
      refine dxF rfl ⟨rfl, _, rfl⟩ (by omega) (by first | exact may126 | exact may140) ((neUnion_o N6 N7 hs6 (ht7.small (by omega) (by omega)) ht7.sym).mono (fun r hr => ⟨_, hr, (ht6.union ht7).mono (by omega) (by omega)⟩)) rfl (⟨_, emptyN 1, rfl, (Drawn.empty (Nat.le_refl _) (by omega)).mono (Nat.le_refl _) (by omega)⟩) ?_
      rintro _ ⟨U, rfl, hU⟩
      repeat refine dvF ?_
      refine dops_end (hK _ (dwK [4, 95] ?_))
      clear hK K
      exact dw_ret (fin_retIO Tryz.results96 Tryz.ntmps96 (.one (.re _ _ (.cell 4 _ _ _ _ rfl rfl tab27 rfl rfl (netO_owned U)))) (by decide) (by decide) rfl rfl rfl ⟨p7, s7, _, rfl, by omega, U, rfl, hU⟩)
     ·refine dw_skip ?_
      show DW _ _ _ _ _
      refine dw_seq (dwR fun K hK => ?_)
      repeat refine evF ?_
      refine cisF rfl ⟨rfl, _, rfl⟩ (by omega) (by first | exact may52 | exact may141) (pick_c bs p1 s1 m _ hby hp1 (by omega)) ?_
      rintro _ ⟨p8, s8, _, rfl, hp8, y, rfl, hy⟩
      refine ioF ?_
      repeat refine evF ?_
      obtain ⟨n, hyn, hn1, hn2⟩ : ∃ n : Nat, (1 : Int) + y = n ∧ 1 ≤ n ∧ n ≤ m := ⟨(1 + y).toNat, by have := hy.1; omega, by have := hy.1; omega, by have := hy.2.2; omega⟩
      rw [hyn]
      refine clF rfl ⟨rfl, _, rfl⟩ (by omega) (by first | exact may52 | exact may141) (neEmpty_d n (by omega)) ?_
      rintro _ rfl
      repeat refine evF ?_
      have hel : (emptyN n).ends.length = n := by simp [emptyN]
      refine aops_end (hK _ (dwK [0, 4, 6, 95] ?_))
      clear hK K
      refine dw_seq ?_
      have dfx := And.intro dfx (@hel)
      refine dw_seq (dwR fun K hK => ?_)
      repeat refine evF ?_
      have dfx := And.intro dfx (@hel)
      refine cisF rfl ⟨rfl, _, rfl⟩ (by omega) (by first | exact may52) (pick_c bs p8 s8 ((2 : Int) * (n : Int)) _ hby hp8 (by omega)) ?_
      rintro _ ⟨p9, s9, _, rfl, hp9, y2, rfl, hy2⟩
      refine ioF ?_
      repeat refine evF ?_
      obtain ⟨k0, rfl⟩ : ∃ k0 : Nat, y2 = k0 := ⟨y2.toNat, by have := hy2.1; omega⟩
      have hk0 : k0 ≤ 80 := by have := hy2.2.2; omega
      refine aops_end (hK _ (dwK [0, 4, 6, 7, 95] ?_))
      clear hK K
      refine dw_block ?_
      refine dw_loopP (X := Net × Nat × Nat × Int) (fun x => x.2.1 ≤ 80 ∧ Drawn m (2 * (80 - x.2.1)) x.1 ∧ x.2.2.1 ≤ B + 2 + 2 + 2 + 6 * (80 - x.2.1)) (fun x => [(7, .c (.p (.int .i64 x.2.1)))]) (fun x => [((6, 0), ⟨some 27, [.sl true 82 1 (x.1.ends.map (esC 35)), .sl true 3 1 (x.1.ids.map iC), .sl true 3 1 (x.1.inputs.map iC)]⟩), ((95, 0), ⟨some 76, [.sl false 5 1 (bs.map bC), .p (.int .i64 x.2.2.1), .p (.int .u64 x.2.2.2)]⟩)]) (fun x => x.2.1) (emptyN n, k0, p9, s9) ⟨hk0, (Drawn.empty hn1 hn2).mono (Nat.le_refl _) (by dsimp only; omega), by dsimp only; omega⟩ (by first | rfl | (simp only [bunK, C.at, C.put, List.dropLast, List.isPrefixOf, Nat.reduceMul, Nat.reduceLT, Nat.reduceLeDiff, Nat.reduceBEq, Nat.reduceEqDiff, reduceCtorEq, Nat.reduceAdd, ↓reduceIte, Int.natCast_zero] <;> rfl)) ?_
      rintro ⟨N, k, q, u⟩ ⟨hk, hD, hq⟩
      intro E hE
      simp only [bunK, C.at, C.put, List.dropLast, List.isPrefixOf, Nat.reduceMul, Nat.reduceLT, Nat.reduceLeDiff, Nat.reduceBEq, Nat.reduceEqDiff, reduceCtorEq, Nat.reduceAdd, ↓reduceIte] at hE
      subst hE
      dsimp only at hk hD hq ⊢
      have hsm : Small N := hD.small (by omega) (by omega)
      have hdl := hD.len
      have hdp := hD.pos
      have hdi := hD.ids
      have hdn := hD.ins
      refine dw_seq ?_
      refine dw_seq (dwR fun K hK => ?_)
      repeat refine evF ?_
      refine aops_end (hK _ (dwK [0, 4, 6, 7, 54, 95] ?_))
      clear hK K
      refine dwI (fun hb => ?_) (fun hb => ?_)
      ·obtain ⟨k, rfl⟩ : ∃ k', k = k' + 1 := ⟨k - 1, by simp at hb; omega⟩
       have hkc : (((k + 1 : Nat) : Int) - 1) = (k : Int) := by omega
       refine dw_skip ?_
       show DW _ _ _ _ _
       refine dw_seq (dw_block ?_)
       have dfx := And.intro dfx (@netSt16.eq_def)
       refine dw_seq (dwRD netSt16 (fun j r => match j with | 4 => CurO bs (B + 2 + 2 + 2 + 6 * (80 - (k + 1)) + 2) (fun rs => ∃ x, rs = [.c (.p (.int .i64 x))] ∧ pickP (N.ends.length : Int) x) r | 9 => CurO bs (B + 2 + 2 + 2 + 6 * (80 - (k + 1)) + 2 + 2) (fun rs => ∃ x, rs = [.c (.p (.int .i64 x))] ∧ pickP (N.ends.length : Int) x) r | _ => True) fun K hK => ?_)
       repeat refine dvF ?_
       have dfx := And.intro dfx (@netSt16.eq_def)
       refine disF rfl ⟨rfl, _, rfl⟩ (by omega) (by first | exact may52) (pick_c bs q u (N.ends.length : Int) (B + 2 + 2 + 2 + 6 * (80 - (k + 1))) hby hq (by omega)) (CurO.ex ⟨_, 0, rfl, pick0 _⟩) ?_
       rintro _ ⟨q3, u3, _, rfl, hq3, y3, rfl, hy3⟩
       refine dioF ?_
       repeat refine dvF ?_
       have dfx := And.intro dfx (@netSt16.eq_def)
       refine disF rfl ⟨rfl, _, rfl⟩ (by omega) (by first | exact may52) (pick_c bs q3 u3 (N.ends.length : Int) (B + 2 + 2 + 2 + 6 * (80 - (k + 1)) + 2) hby hq3 (by omega)) (CurO.ex ⟨_, 0, rfl, pick0 _⟩) ?_
       rintro _ ⟨q4, u4, _, rfl, hq4, y4, rfl, hy4⟩
       refine dioF ?_
       repeat refine dvF ?_
       obtain ⟨a, rfl⟩ : ∃ a : Nat, y3 = a := ⟨y3.toNat, by have := hy3.1; omega⟩
       obtain ⟨b, rfl⟩ : ∃ b : Nat, y4 = b := ⟨y4.toNat, by have := hy4.1; omega⟩
       have ha : a < N.ends.length := by have := hy3.2.2; omega
       have hbN : b < N.ends.length := by have := hy4.2.2; omega
       refine dops_end (hK _ (dwK [0, 4, 6, 7, 8, 9, 95] ?_))
       clear hK K
       refine dw_seq ?_
       have dfx := And.intro dfx (@rowes)
       refine dw_seq (dwR fun K hK => ?_)
       repeat refine evF ?_
       obtain h1 | h1 := Bool.eq_false_or_eq_true (decide (((gl N.ends a).length : Int) > 4))
       ·have dfx := And.intro dfx (@h1)
        repeat refine evF ?_
        refine aops_end (hK _ (dwK [0, 4, 6, 7, 8, 9, 82, 95] ?_))
        clear hK K
        refine dwI (fun hb => ?_) (fun hb => ?_)
        ·refine dw_leave2 ?_
         refine dw_keep [0, 4, 6, 7, 95] (by simp only [bunK, C.at, C.put, List.dropLast, List.isPrefixOf, Nat.reduceMul, Nat.reduceLT, Nat.reduceLeDiff, Nat.reduceBEq, Nat.reduceEqDiff, reduceCtorEq, Nat.reduceAdd, ↓reduceIte]; exact rfl) ?_
         refine dwR fun K hK => ?_
         repeat refine evF ?_
         have dfk := @hkc
         refine aops_end (hK _ ?_)
         clear hK K
         show ∃ x, _ ∧ _ ∧ Weak _ _
         refine ⟨(N, k, q4, u4), ?_, ?_, weakFk [0, 4, 6, 7, 95]⟩
         ·exact ⟨by dsimp only; omega, hD.mono (Nat.le_refl _) (by dsimp only; omega), by dsimp only; omega⟩
         ·dsimp only; omega
        ·cases hb
       ·have dfx := And.intro dfx (And.intro @h1 @rowes)
        repeat refine evF ?_
        refine aops_end (hK _ (dwK [0, 4, 6, 7, 8, 9, 82, 95] ?_))
        clear hK K
        refine dwI (fun hb => ?_) (fun hb => ?_)
        ·refine dw_leave2 ?_
         refine dw_keep [0, 4, 6, 7, 95] (by simp only [bunK, C.at, C.put, List.dropLast, List.isPrefixOf, Nat.reduceMul, Nat.reduceLT, Nat.reduceLeDiff, Nat.reduceBEq, Nat.reduceEqDiff, reduceCtorEq, Nat.reduceAdd, ↓reduceIte]; exact rfl) ?_
         refine dwR fun K hK => ?_
         repeat refine evF ?_
         have dfk := @hkc
         refine aops_end (hK _ ?_)
         clear hK K
         show ∃ x, _ ∧ _ ∧ Weak _ _
         refine ⟨(N, k, q4, u4), ?_, ?_, weakFk [0, 4, 6, 7, 95]⟩
         ·exact ⟨by dsimp only; omega, hD.mono (Nat.le_refl _) (by dsimp only; omega), by dsimp only; omega⟩
         ·dsimp only; omega
        ·refine dw_skip ?_
         show DW _ _ _ _ _
         refine dw_seq (dwR fun K hK => ?_)
         repeat refine evF ?_
         refine cisF rfl ⟨rfl, _, rfl⟩ (by omega) (by first | exact may53) (one_c bs q4 u4 5 _ hby hq4 (by omega)) ?_
         rintro _ ⟨q5, u5, _, rfl, hq5, b5, rfl⟩
         refine ioF ?_
         repeat refine evF ?_
         refine aops_end (hK _ (dwK [0, 4, 6, 7, 8, 9, 84, 95] ?_))
         clear hK K
         refine dwI (fun hb => ?_) (fun hb => ?_)
         ·refine dwR fun K hK => ?_
          repeat refine evF ?_
          refine clF rfl ⟨rfl, _, rfl⟩ (by omega) (by first | exact may142) (neStub_o N a hsm ha) ?_
          rintro _ rfl
          repeat refine evF ?_
          refine aops_end (hK _ (dwK [0, 4, 6, 7, 95] ?_))
          clear hK K
          refine dwR fun K hK => ?_
          repeat refine evF ?_
          have dfk := @hkc
          refine aops_end (hK _ ?_)
          clear hK K
          show ∃ x, _ ∧ _ ∧ Weak _ _
          refine ⟨(stubN N a, k, q5, u5), ?_, ?_, weakFk [0, 4, 6, 7, 95]⟩
          ·exact ⟨by dsimp only; omega, (hD.stub ha).mono (Nat.le_refl _) (by dsimp only; omega), by dsimp only; omega⟩
          ·dsimp only; omega
         ·refine dwR fun K hK => ?_
          repeat refine evF ?_
          refine clF rfl ⟨rfl, _, rfl⟩ (by omega) (by first | exact may143) (neJoin_o N a b hsm ha hbN) ?_
          rintro _ rfl
          repeat refine evF ?_
          refine aops_end (hK _ (dwK [0, 4, 6, 7, 95] ?_))
          clear hK K
          refine dwR fun K hK => ?_
          repeat refine evF ?_
          have dfk := @hkc
          refine aops_end (hK _ ?_)
          clear hK K
          show ∃ x, _ ∧ _ ∧ Weak _ _
          refine ⟨(joinN N a b, k, q5, u5), ?_, ?_, weakFk [0, 4, 6, 7, 95]⟩
          ·exact ⟨by dsimp only; omega, (hD.join ha hbN).mono (Nat.le_refl _) (by dsimp only; omega), by dsimp only; omega⟩
          ·dsimp only; omega
      ·refine dw_leave3 ?_
       refine dw_keep [0, 4, 6, 95] (by simp only [bunK, C.at, C.put, List.dropLast, List.isPrefixOf, Nat.reduceMul, Nat.reduceLT, Nat.reduceLeDiff, Nat.reduceBEq, Nat.reduceEqDiff, reduceCtorEq, Nat.reduceAdd, ↓reduceIte]; exact rfl) ?_
       refine dw_seq (dwR fun K hK => ?_)
       repeat refine evF ?_
       refine giF rfl ⟨rfl, _, rfl⟩ (by omega) (by first | exact may144) (mixed_g bs q u N (B + 600) hby (by omega) (by omega) (by omega) (fun a _ => by have := hD.deg a; unfold dg at this; omega) (by omega) (by omega) hD.sym) ?_
       rintro _ ⟨q9, u9, _, rfl, hq9, M, rfl, hM⟩
       refine ioGF ?_
       repeat refine evF ?_
       refine aops_end (hK _ (dwK [4, 95] ?_))
       clear hK K
       exact dw_ret (fin_retIO Tryz.results96 Tryz.ntmps96 (.one (.re _ _ (.cell 4 _ _ _ _ rfl rfl tab27 rfl rfl (netO_owned M)))) (by decide) (by decide) rfl rfl rfl ⟨q9, u9, _, rfl, by omega, M, rfl, (hD.mono (by omega) (by omega)).alike hM⟩)
end
section
open Go Go.RowKit
theorem dfxDan : type_of% (And.intro tab27 (And.intro @rowi (And.intro tab24 (And.intro tab82 (And.intro @if_pos.{1} (And.intro tab35 (And.intro @netO.eq_1 (And.intro @netZ.eq_1 @trivial)))))))) := And.intro tab27 (And.intro @rowi (And.intro tab24 (And.intro tab82 (And.intro @if_pos.{1} (And.intro tab35 (And.intro @netO.eq_1 (And.intro @netZ.eq_1 @trivial)))))))
set_option maxRecDepth 8000 in
set_option maxHeartbeats 0 in
theorem anyNet_c (bs : List Int) (p : Nat) (s : Int) (m : Nat) (z : Int) (B : Nat) (hz : z = m) (hby : BytesOk bs) (hp : p ≤ B) (hB : B + 576460752340000000 ≤ 4611686018427387900) (hm1 : 1 ≤ m) (hm2 : m ≤ 38) : ACalls Tryz.prog 127 [.io 76 (curC bs p s), .c (.p (.int .i64 z))] (CurO bs (B + 576460752340000000) fun rs => ∃ N, rs = [.own true (netO N)] ∧ Tame N) := by
 subst hz
 refine iocalls_of Tryz.func127 rfl (by rw [Tryz.ntmps127]; simp) fun w0 => ?_
 rw [Tryz.ntmps127]
 have dfx := dfxDan
 simp only [initIO, argsL, Arg.av, curC]
 refine dw_seq (dwR fun K hK => ?_)
 repeat refine evF ?_
 refine aops_end (hK _ (dwK [0, 1, 4, 17] ?_))
 clear hK K
 refine dw_seq (dwR fun K hK => ?_)
 repeat refine evF ?_
 refine ciaF rfl ⟨rfl, _, rfl⟩ (by omega) (by first | exact may96) (net_c bs p s m _ B rfl hby hp (by omega) (by omega) (by omega)) ?_
 rintro _ ⟨p1, s1, _, rfl, hp1, N1, rfl, ht1⟩
 refine ioF ?_
 repeat refine evF ?_
 refine aops_end (hK _ (dwK [0, 4, 5, 17] ?_))
 clear hK K
 have hD1 : Drawn 40 500 N1 := ht1.mono (by omega) (by omega)
 refine dw_frz 5 [0, 4, 5, 17] (by simp only [bunK, C.at, C.put, List.dropLast, List.isPrefixOf, Nat.reduceMul, Nat.reduceLT, Nat.reduceLeDiff, Nat.reduceBEq, Nat.reduceEqDiff, reduceCtorEq, Nat.reduceAdd, ↓reduceIte]; exact rfl) ?_
 refine dw_join (X := Net × Nat × Int) (fun x => Drawn 40 500 x.1 ∧ x.2.1 ≤ B + 576460752303423488 + 2 + 4194304) (fun x => mkE 17 [(0, .ptr 17 0 [(0, 0)] 0), (4, .box), (5, .box), (17, .dead)] [((4, 0), ⟨some 27, [.p (.slice none 0 0), .p (.slice none 0 0), .p (.slice none 0 0)]⟩), ((5, 0), ⟨some 27, [.sl false 82 1 (x.1.ends.map (esC 35)), .sl false 3 1 (x.1.ids.map iC), .sl false 3 1 (x.1.inputs.map iC)]⟩), ((17, 0), ⟨some 76, [.sl false 5 1 (bs.map bC), .p (.int .i64 x.2.1), .p (.int .u64 x.2.2)]⟩)]) ?_ ?_
 ·refine dw_seq (dwR fun K hK => ?_)
  repeat refine evF ?_
  refine cisF rfl ⟨rfl, _, rfl⟩ (by omega) (by first | exact may53) (one_c bs p1 s1 3 _ hby hp1 (by omega)) ?_
  rintro _ ⟨p2, s2, _, rfl, hp2, b2, rfl⟩
  refine ioF ?_
  repeat refine evF ?_
  refine aops_end (hK _ (dwK [0, 4, 5, 10, 17] ?_))
  clear hK K
  refine dwI (fun hb => ?_) (fun hb => ?_)
  ·refine dwR fun K hK => ?_
   repeat refine evF ?_
   refine ciaF rfl ⟨rfl, _, rfl⟩ (by omega) (by first | exact may170) (withIds_c bs p2 s2 NFz N1 (B + 576460752303423488 + 2) hby hp2 (by omega) (hD1.small (by omega) (by omega))) ?_
   rintro _ ⟨p3, s3, _, rfl, hp3, M, rfl, hM⟩
   refine ioF ?_
   repeat refine evF ?_
   refine aops_end (hK _ ?_)
   clear hK K
   show ∃ x, _ ∧ Weak _ _
   refine ⟨(M, p3, s3), ?_, ((weak_frz _ 5).trans (weak_keep _ [0, 4, 5, 17])).trans (Weak.of_eq (by simp only [bunK, C.at, C.put, List.dropLast, List.isPrefixOf, Nat.reduceMul, Nat.reduceLT, Nat.reduceLeDiff, Nat.reduceBEq, Nat.reduceEqDiff, reduceCtorEq, Nat.reduceAdd, ↓reduceIte] <;> exact rfl))⟩
   exact ⟨hD1.withIds hM, hp3⟩
  ·refine dw_skip ?_
   show ∃ x, _ ∧ Weak _ _
   refine ⟨(N1, p2, s2), ?_, (weak_keep _ [0, 4, 5, 17]).trans (Weak.of_eq (by simp only [bunK, C.at, C.put, List.dropLast, List.isPrefixOf, Nat.reduceMul, Nat.reduceLT, Nat.reduceLeDiff, Nat.reduceBEq, Nat.reduceEqDiff, reduceCtorEq, Nat.reduceAdd, ↓reduceIte] <;> exact rfl))⟩
   exact ⟨hD1, by dsimp only; omega⟩
 ·rintro ⟨M, p4, s4⟩ ⟨hD, hp4⟩
  dsimp only at hD hp4 ⊢
  refine dw_seq (dwR fun K hK => ?_)
  repeat refine evF ?_
  refine ciaF rfl ⟨rfl, _, rfl⟩ (by omega) (by first | exact may171) (neBend_c bs p4 s4 NFz M (B + 576460752303423488 + 2 + 4194304) hby hp4 (by omega) hD) ?_
  rintro _ ⟨p5, s5, _, rfl, hp5, M2, rfl, hT⟩
  refine ioF ?_
  repeat refine evF ?_
  refine aops_end (hK _ (dwK [4, 17] ?_))
  clear hK K
  exact dw_ret (fin_retIO Tryz.results127 Tryz.ntmps127 (.one (.re _ _ (.cell 4 _ _ _ _ rfl rfl tab27 rfl rfl (netO_owned M2)))) (by decide) (by decide) rfl rfl rfl ⟨p5, s5, _, rfl, by omega, M2, rfl, hT⟩)
end
section
open Go Go.RowKit
theorem dfxDplc : type_of% (And.intro tab27 (And.intro @rowi (And.intro @netO.eq_1 (And.intro @netZ.eq_1 @trivial)))) := And.intro tab27 (And.intro @rowi (And.intro @netO.eq_1 (And.intro @netZ.eq_1 @trivial)))
set_option maxRecDepth 8000 in
set_option maxHeartbeats 0 in
theorem place_c (bs : List Int) (p : Nat) (s : Int) (m : Nat) (z : Int) (B : Nat) (hz : z = m) (hby : BytesOk bs) (hp : p ≤ B) (hB : B + 600000000000000000 ≤ 4611686018427387900) (hm1 : 1 ≤ m) (hm2 : m ≤ 38) : ACalls Tryz.prog 76 [.io 76 (curC bs p s), .c (.p (.int .i64 z))] (CurO bs (B + 600000000000000000) fun rs => ∃ N, rs = [.own true (netO N)] ∧ Tame N) := by
 subst hz
 refine iocalls_of Tryz.func76 rfl (by rw [Tryz.ntmps76]; simp) fun w0 => ?_
 rw [Tryz.ntmps76]
 have dfx := dfxDplc
 simp only [initIO, argsL, Arg.av, curC]
 refine dw_seq (dwR fun K hK => ?_)
 repeat refine evF ?_
 refine aops_end (hK _ (dwK [0, 1, 4, 32] ?_))
 clear hK K
 refine dw_seq ?_
 refine dw_seq (dwR fun K hK => ?_)
 repeat refine evF ?_
 refine cisF rfl ⟨rfl, _, rfl⟩ (by omega) (by first | exact may52) (pick_c bs p s 8 B hby hp (by omega)) ?_
 rintro _ ⟨p1, s1, _, rfl, hp1, x1, rfl, hx1⟩
 refine ioF ?_
 repeat refine evF ?_
 refine aops_end (hK _ (dwK [0, 1, 4, 6, 32] ?_))
 clear hK K
 refine dw_block ?_
 refine dw_join (X := Bool) (fun z => True) (fun z => mkE 32 [(0, .ptr 32 0 [(0, 0)] 0), (1, .c (.p (.int .i64 m))), (4, .box), (6, .c (.p (.int .i64 x1))), (7, .c (.p (.bool z))), (32, .dead)] [((4, 0), ⟨some 27, [.p (.slice none 0 0), .p (.slice none 0 0), .p (.slice none 0 0)]⟩), ((32, 0), ⟨some 76, [.sl false 5 1 (bs.map bC), .p (.int .i64 p1), .p (.int .u64 s1)]⟩)]) ?_ ?_
 ·refine dw_seq (dwR fun K hK => ?_)
  repeat refine evF ?_
  refine aops_end (hK _ (dwK [0, 1, 4, 6, 7, 32] ?_))
  clear hK K
  refine dwI (fun hb => ?_) (fun hb => ?_)
  ·refine dw_skip ?_
   show ∃ x, _ ∧ Weak _ _
   refine ⟨_, ?_, (weak_keep _ [0, 1, 4, 6, 7, 32]).trans (Weak.of_eq (by simp only [bunK, C.at, C.put, List.dropLast, List.isPrefixOf, Nat.reduceMul, Nat.reduceLT, Nat.reduceLeDiff, Nat.reduceBEq, Nat.reduceEqDiff, reduceCtorEq, Nat.reduceAdd, ↓reduceIte] <;> exact rfl))⟩
   trivial
  ·refine dwR fun K hK => ?_
   repeat refine evF ?_
   refine aops_end (hK _ ?_)
   clear hK K
   show ∃ x, _ ∧ Weak _ _
   refine ⟨_, ?_, (weak_keep _ [0, 1, 4, 6, 7, 32]).trans (Weak.of_eq (by simp only [bunK, C.at, C.put, List.dropLast, List.isPrefixOf, Nat.reduceMul, Nat.reduceLT, Nat.reduceLeDiff, Nat.reduceBEq, Nat.reduceEqDiff, reduceCtorEq, Nat.reduceAdd, ↓reduceIte] <;> exact rfl))⟩
   trivial
 ·rintro z -
  refine dwI (fun hb => ?_) (fun hb => ?_)
  ·refine dw_seq (dwR fun K hK => ?_)
   repeat refine evF ?_
   refine ciaF rfl ⟨rfl, _, rfl⟩ (by omega) (by first | exact may124) (tree_c bs p1 s1 m _ (B + 2) rfl hby hp1 (by omega) (by omega) (by omega)) ?_
   rintro _ ⟨p2, s2, _, rfl, hp2, N2, rfl, ht2⟩
   refine ioF ?_
   repeat refine evF ?_
   refine aops_end (hK _ (dwK [4, 32] ?_))
   clear hK K
   exact dw_ret (fin_retIO Tryz.results76 Tryz.ntmps76 (.one (.re _ _ (.cell 4 _ _ _ _ rfl rfl tab27 rfl rfl (netO_owned N2)))) (by decide) (by decide) rfl rfl rfl ⟨p2, s2, _, rfl, by omega, N2, rfl, ht2.tame (by omega) (by omega)⟩)
  ·refine dw_join (X := Bool) (fun z => True) (fun z => mkE 32 [(0, .ptr 32 0 [(0, 0)] 0), (1, .c (.p (.int .i64 m))), (4, .box), (6, .c (.p (.int .i64 x1))), (13, .c (.p (.bool z))), (32, .dead)] [((4, 0), ⟨some 27, [.p (.slice none 0 0), .p (.slice none 0 0), .p (.slice none 0 0)]⟩), ((32, 0), ⟨some 76, [.sl false 5 1 (bs.map bC), .p (.int .i64 p1), .p (.int .u64 s1)]⟩)]) ?_ ?_
   ·refine dw_seq (dwR fun K hK => ?_)
    repeat refine evF ?_
    refine aops_end (hK _ (dwK [0, 1, 4, 6, 13, 32] ?_))
    clear hK K
    refine dwI (fun hb => ?_) (fun hb => ?_)
    ·refine dw_skip ?_
     show ∃ x, _ ∧ Weak _ _
     refine ⟨_, ?_, (weak_keep _ [0, 1, 4, 6, 13, 32]).trans (Weak.of_eq (by simp only [bunK, C.at, C.put, List.dropLast, List.isPrefixOf, Nat.reduceMul, Nat.reduceLT, Nat.reduceLeDiff, Nat.reduceBEq, Nat.reduceEqDiff, reduceCtorEq, Nat.reduceAdd, ↓reduceIte] <;> exact rfl))⟩
     trivial
    ·refine dwR fun K hK => ?_
     repeat refine evF ?_
     refine aops_end (hK _ ?_)
     clear hK K
     show ∃ x, _ ∧ Weak _ _
     refine ⟨_, ?_, (weak_keep _ [0, 1, 4, 6, 13, 32]).trans (Weak.of_eq (by simp only [bunK, C.at, C.put, List.dropLast, List.isPrefixOf, Nat.reduceMul, Nat.reduceLT, Nat.reduceLeDiff, Nat.reduceBEq, Nat.reduceEqDiff, reduceCtorEq, Nat.reduceAdd, ↓reduceIte] <;> exact rfl))⟩
     trivial
   ·rintro z -
    refine dwI (fun hb => ?_) (fun hb => ?_)
    ·refine dw_seq (dwR fun K hK => ?_)
     repeat refine evF ?_
     refine ciaF rfl ⟨rfl, _, rfl⟩ (by omega) (by first | exact may125) (simple_c bs p1 s1 m _ (B + 2) rfl hby hp1 (by omega) (by omega) (by omega)) ?_
     rintro _ ⟨p2, s2, _, rfl, hp2, N2, rfl, ht2⟩
     refine ioF ?_
     repeat refine evF ?_
     refine aops_end (hK _ (dwK [4, 32] ?_))
     clear hK K
     exact dw_ret (fin_retIO Tryz.results76 Tryz.ntmps76 (.one (.re _ _ (.cell 4 _ _ _ _ rfl rfl tab27 rfl rfl (netO_owned N2)))) (by decide) (by decide) rfl rfl rfl ⟨p2, s2, _, rfl, by omega, N2, rfl, ht2.tame (by omega) (by omega)⟩)
    ·refine dw_seq (dwR fun K hK => ?_)
     repeat refine evF ?_
     refine aops_end (hK _ (dwK [0, 1, 4, 6, 19, 32] ?_))
     clear hK K
     refine dwI (fun hb => ?_) (fun hb => ?_)
     ·refine dw_seq (dwR fun K hK => ?_)
      repeat refine evF ?_
      refine ciaF rfl ⟨rfl, _, rfl⟩ (by omega) (by first | exact may126) (ring_c bs p1 s1 m _ (B + 2) rfl hby hp1 (by omega) (by omega) (by omega)) ?_
      rintro _ ⟨p2, s2, _, rfl, hp2, N2, rfl, ht2⟩
      refine ioF ?_
      repeat refine evF ?_
      refine aops_end (hK _ (dwK [4, 32] ?_))
      clear hK K
      exact dw_ret (fin_retIO Tryz.results76 Tryz.ntmps76 (.one (.re _ _ (.cell 4 _ _ _ _ rfl rfl tab27 rfl rfl (netO_owned N2)))) (by decide) (by decide) rfl rfl rfl ⟨p2, s2, _, rfl, by omega, N2, rfl, ht2.tame (by omega) (by omega)⟩)
     ·refine dw_seq (dwR fun K hK => ?_)
      repeat refine evF ?_
      refine aops_end (hK _ (dwK [0, 1, 4, 24, 32] ?_))
      clear hK K
      refine dwI (fun hb => ?_) (fun hb => ?_)
      ·refine dw_seq (dwR fun K hK => ?_)
       repeat refine evF ?_
       refine ciaF rfl ⟨rfl, _, rfl⟩ (by omega) (by first | exact may127) (anyNet_c bs p1 s1 m _ (B + 2) rfl hby hp1 (by omega) (by omega) (by omega)) ?_
       rintro _ ⟨p2, s2, _, rfl, hp2, N2, rfl, ht2⟩
       refine ioF ?_
       repeat refine evF ?_
       refine aops_end (hK _ (dwK [4, 32] ?_))
       clear hK K
       exact dw_ret (fin_retIO Tryz.results76 Tryz.ntmps76 (.one (.re _ _ (.cell 4 _ _ _ _ rfl rfl tab27 rfl rfl (netO_owned N2)))) (by decide) (by decide) rfl rfl rfl ⟨p2, s2, _, rfl, by omega, N2, rfl, ht2⟩)
      ·refine dw_skip ?_
       show DW _ _ _ _ _
       refine dw_seq (dwR fun K hK => ?_)
       repeat refine evF ?_
       refine ciaF rfl ⟨rfl, _, rfl⟩ (by omega) (by first | exact may96) (net_c bs p1 s1 m _ (B + 2) rfl hby hp1 (by omega) (by omega) (by omega)) ?_
       rintro _ ⟨p2, s2, _, rfl, hp2, N2, rfl, ht2⟩
       refine ioF ?_
       repeat refine evF ?_
       refine aops_end (hK _ (dwK [4, 32] ?_))
       clear hK K
       exact dw_ret (fin_retIO Tryz.results76 Tryz.ntmps76 (.one (.re _ _ (.cell 4 _ _ _ _ rfl rfl tab27 rfl rfl (netO_owned N2)))) (by decide) (by decide) rfl rfl rfl ⟨p2, s2, _, rfl, by omega, N2, rfl, ht2.tame (by omega) (by omega)⟩)
end
section
open Go Go.RowKit
def CmP (r : Res) : Prop := ∃ N, r = [.agg (netZ N)] ∧ Tame N
theorem dfxDdc : type_of% (And.intro tab27 (And.intro @rowi (And.intro @netO.eq_1 (And.intro @netZ.eq_1 @trivial)))) := And.intro tab27 (And.intro @rowi (And.intro @netO.eq_1 (And.intro @netZ.eq_1 @trivial)))
set_option maxRecDepth 8000 in
set_option maxHeartbeats 0 in
theorem DrawComponentsOf_c (bs : List Int) (hby : BytesOk bs) : ACalls Tryz.prog 68 [.c (codeC bs)] CmP := by
 refine acalls_of (by simp [Arg.isIo]) Tryz.func68 rfl (by rw [Tryz.ntmps68]; simp) fun w0 => ?_
 rw [Tryz.ntmps68]
 have dfx := dfxDdc
 simp only [initE, argsL, Arg.av, codeC]
 refine dw_seq (dwR fun K hK => ?_)
 repeat refine evF ?_
 refine aops_end (hK _ (dwK [0, 2] ?_))
 clear hK K
 refine dw_seq (dwR fun K hK => ?_)
 repeat refine evF ?_
 refine aops_end (hK _ (dwK [2, 3, 6] ?_))
 clear hK K
 refine dw_seq (dwR fun K hK => ?_)
 repeat refine evF ?_
 refine ciaF rfl ⟨rfl, _, rfl⟩ (by omega) (by first | exact may76) (place_c bs 0 0 9 _ 0 rfl hby (Nat.zero_le 0) (by omega) (by omega) (by omega)) ?_
 rintro _ ⟨p1, s1, _, rfl, hp1, N1, rfl, ht1⟩
 refine ioF ?_
 repeat refine evF ?_
 have dfk := @netO.eq_1
 refine aops_end (hK _ (dwKF [2, 6] ?_))
 clear hK K
 refine dw_frz 2 [2, 6] (by simp only [bunK, C.at, C.put, List.dropLast, List.isPrefixOf, Nat.reduceMul, Nat.reduceLT, Nat.reduceLeDiff, Nat.reduceBEq, Nat.reduceEqDiff, reduceCtorEq, Nat.reduceAdd, ↓reduceIte]; exact rfl) ?_
 exact dw_ret (fin_retA Tryz.results68 (.one (.cell 2 _ _ _ _ rfl rfl tab27 rfl rfl rfl)) (by decide) ⟨N1, rfl, ht1⟩)
set_option maxRecDepth 8000 in
set_option maxHeartbeats 0 in
theorem DrawDiameterOf_c (bs : List Int) (hby : BytesOk bs) : ACalls Tryz.prog 20 [.c (codeC bs)] CmP := by
 refine acalls_of (by simp [Arg.isIo]) Tryz.func20 rfl (by rw [Tryz.ntmps20]; simp) fun w0 => ?_
 rw [Tryz.ntmps20]
 have dfx := dfxDdc
 simp only [initE, argsL, Arg.av, codeC]
 refine dw_seq (dwR fun K hK => ?_)
 repeat refine evF ?_
 refine aops_end (hK _ (dwK [0, 2] ?_))
 clear hK K
 refine dw_seq (dwR fun K hK => ?_)
 repeat refine evF ?_
 refine caF rfl ⟨rfl, _, rfl⟩ (by omega) (by first | exact may68) (DrawComponentsOf_c bs hby) ?_
 rintro _ ⟨N1, rfl, ht1⟩
 repeat refine evF ?_
 refine aops_end (hK _ (dwK [2] ?_))
 clear hK K
 exact dw_ret (fin_retA Tryz.results20 (.one (.cell 2 _ _ _ _ rfl rfl tab27 rfl rfl rfl)) (by decide) ⟨N1, rfl, ht1⟩)
end
section
open Go Go.RowKit
def DnP (r : Res) : Prop := ∃ (N : Net) (x : Int), r = [.agg (netZ N), .c (.p (.int .i64 x))] ∧ Tame N
theorem dfxDdd : type_of% (And.intro tab27 (And.intro @rowi (And.intro @netO.eq_1 (And.intro @netZ.eq_1 (And.intro tab24 (And.intro tab3 (And.intro tab25 (And.intro @if_pos.{1} @trivial)))))))) := And.intro tab27 (And.intro @rowi (And.intro @netO.eq_1 (And.intro @netZ.eq_1 (And.intro tab24 (And.intro tab3 (And.intro tab25 (And.intro @if_pos.{1} @trivial)))))))
set_option maxRecDepth 8000 in
set_option maxHeartbeats 0 in
theorem DrawDistancesFrom_c (bs : List Int) (hby : BytesOk bs) : ACalls Tryz.prog 51 [.c (codeC bs)] DnP := by
 refine acalls_of (by simp [Arg.isIo]) Tryz.func51 rfl (by rw [Tryz.ntmps51]; simp) fun w0 => ?_
 rw [Tryz.ntmps51]
 have dfx := dfxDdd
 simp only [initE, argsL, Arg.av, codeC]
 refine dw_seq (dwR fun K hK => ?_)
 repeat refine evF ?_
 refine aops_end (hK _ (dwK [0, 2] ?_))
 clear hK K
 refine dw_seq (dwR fun K hK => ?_)
 repeat refine evF ?_
 refine aops_end (hK _ (dwK [2, 4, 9] ?_))
 clear hK K
 refine dw_seq (dwR fun K hK => ?_)
 repeat refine evF ?_
 refine ciaF rfl ⟨rfl, _, rfl⟩ (by omega) (by first | exact may76) (place_c bs 0 0 9 _ 0 rfl hby (Nat.zero_le 0) (by omega) (by omega) (by omega)) ?_
 rintro _ ⟨p1, s1, _, rfl, hp1, N1, rfl, ht1⟩
 refine ioF ?_
 repeat refine evF ?_
 have dfk := @netO.eq_1
 refine aops_end (hK _ (dwKF [2, 4, 5, 9] ?_))
 clear hK K
 refine dw_frz 5 [2, 4, 5, 9] (by simp only [bunK, C.at, C.put, List.dropLast, List.isPrefixOf, Nat.reduceMul, Nat.reduceLT, Nat.reduceLeDiff, Nat.reduceBEq, Nat.reduceEqDiff, reduceCtorEq, Nat.reduceAdd, ↓reduceIte]; exact rfl) ?_
 have hl1 := ht1.len
 refine dw_seq (dwR fun K hK => ?_)
 repeat refine evF ?_
 refine cisF rfl ⟨rfl, _, rfl⟩ (by omega) (by first | exact may52) (pick_c bs p1 s1 (N1.ends.length : Int) _ hby hp1 (by omega)) ?_
 rintro _ ⟨p2, s2, _, rfl, hp2, x2, rfl, hx2⟩
 refine ioF ?_
 repeat refine evF ?_
 refine aops_end (hK _ (dwK [2, 4, 5, 6, 9] ?_))
 clear hK K
 refine dw_join (X := Int) (fun z => True) (fun z => mkE 27 [(2, .box), (5, .box), (6, .c (.p (.int .i64 z)))] [((2, 0), ⟨some 27, [.p (.slice none 0 0), .p (.slice none 0 0), .p (.slice none 0 0)]⟩), ((5, 0), ⟨some 27, [.sl false 82 1 (N1.ends.map (esC 35)), .sl false 3 1 (N1.ids.map iC), .sl false 3 1 (N1.inputs.map iC)]⟩)]) ?_ ?_
 ·refine dw_seq (dwR fun K hK => ?_)
  repeat refine evF ?_
  refine cisF rfl ⟨rfl, _, rfl⟩ (by omega) (by first | exact may53) (one_c bs p2 s2 24 _ hby hp2 (by omega)) ?_
  rintro _ ⟨p3, s3, _, rfl, hp3, b3, rfl⟩
  refine ioF ?_
  repeat refine evF ?_
  refine aops_end (hK _ (dwK [2, 4, 5, 6, 9, 18] ?_))
  clear hK K
  refine dwI (fun hb => ?_) (fun hb => ?_)
  ·refine dwR fun K hK => ?_
   repeat refine evF ?_
   refine cisF rfl ⟨rfl, _, rfl⟩ (by omega) (by first | exact may54) (among_c bs p3 s3 true 3 [-1, (N1.ends.length : Int)] _ hby hp3 (by omega) (by simp) (by simp)) ?_
   rintro _ ⟨p4, s4, _, rfl, hp4, x4, rfl, hx4⟩
   refine ioF ?_
   repeat refine evF ?_
   refine aops_end (hK _ ?_)
   clear hK K
   show ∃ x, _ ∧ Weak _ _
   refine ⟨x4, ?_, (weak_keep _ [2, 5, 6]).trans (Weak.of_eq (by simp only [bunK, C.at, C.put, List.dropLast, List.isPrefixOf, Nat.reduceMul, Nat.reduceLT, Nat.reduceLeDiff, Nat.reduceBEq, Nat.reduceEqDiff, reduceCtorEq, Nat.reduceAdd, ↓reduceIte] <;> exact rfl))⟩
   trivial
  ·refine dw_skip ?_
   show ∃ x, _ ∧ Weak _ _
   refine ⟨x2, ?_, (weak_keep _ [2, 5, 6]).trans (Weak.of_eq (by simp only [bunK, C.at, C.put, List.dropLast, List.isPrefixOf, Nat.reduceMul, Nat.reduceLT, Nat.reduceLeDiff, Nat.reduceBEq, Nat.reduceEqDiff, reduceCtorEq, Nat.reduceAdd, ↓reduceIte] <;> exact rfl))⟩
   trivial
 ·rintro z -
  refine dw_seq (dwR fun K hK => ?_)
  repeat refine evF ?_
  refine aops_end (hK _ (dwK [2, 3] ?_))
  clear hK K
  exact dw_ret (fin_retA Tryz.results51 (.two (.cell 2 _ _ _ _ rfl rfl tab27 rfl rfl rfl) (.re _ _ (.plain _ _ rfl))) (by decide) ⟨N1, _, rfl, ht1⟩)
end
section
open Go Go.RowKit
def DpP (r : Res) : Prop := ∃ (N : Net) (x y : Int), r = [.agg (netZ N), .c (.p (.int .i64 x)), .c (.p (.int .i64 y))] ∧ Tame N
theorem cut_map {α β : Type} (f : α → β) (l : List α) (i j : Nat) : cutR (l.map f) i j = (cutR l i j).map f := by
 unfold cutR
 rw [List.map_take, List.map_drop]
theorem cut_bytes {bs : List Int} (h : BytesOk bs) (i j : Nat) (hij : i ≤ j) (hj : j ≤ bs.length) : BytesOk (cutR bs i j) :=
 ⟨by rw [cutR_len hij hj]; have := h.1; omega, fun x hx => h.2 x (cutR_mem hx)⟩
theorem dfxDpb : type_of% (And.intro tab27 (And.intro tab76 (And.intro tab22 (And.intro tab3 (And.intro tab74 (And.intro tab5 (And.intro @rowi (And.intro tab24 (And.intro tab82 (And.intro tab25 (And.intro @netO.eq_1 (And.intro @netZ.eq_1 (And.intro @if_pos.{1} @trivial))))))))))))) := And.intro tab27 (And.intro tab76 (And.intro tab22 (And.intro tab3 (And.intro tab74 (And.intro tab5 (And.intro @rowi (And.intro tab24 (And.intro tab82 (And.intro tab25 (And.intro @netO.eq_1 (And.intro @netZ.eq_1 (And.intro @if_pos.{1} @trivial))))))))))))
set_option maxRecDepth 8000 in
set_option maxHeartbeats 0 in
theorem DrawPathBetween_c (bs : List Int) (hby : BytesOk bs) : ACalls Tryz.prog 7 [.c (codeC bs)] DpP := by
 have hlen := hby.1
 obtain ⟨h, hh⟩ : ∃ h : Nat, Int.tdiv (bs.length : Int) 2 = h := ⟨bs.length / 2, rfl⟩
 have hhl : h ≤ bs.length := by have : Int.tdiv (bs.length : Int) 2 = ((bs.length / 2 : Nat) : Int) := rfl; omega
 have hwr : IntKind.i64.wrap (h : Int) = h := IntWalk.i64_in _ (by omega)
 refine acalls_of (by simp [Arg.isIo]) Tryz.func7 rfl (by rw [Tryz.ntmps7]; simp) fun w0 => ?_
 rw [Tryz.ntmps7]
 have dfx := dfxDpb
 simp only [initE, argsL, Arg.av, codeC]
 refine dw_seq (dwR fun K hK => ?_)
 repeat refine evF ?_
 refine aops_end (hK _ (dwK [0, 2] ?_))
 clear hK K
 refine dw_seq (dwR fun K hK => ?_)
 repeat refine evF ?_
 refine aops_end (hK _ (dwK [0, 2, 5, 11] ?_))
 clear hK K
 have dfx := And.intro dfx (And.intro @hh (And.intro @hwr (And.intro @Int.toNat_natCast @cut_map)))
 refine dw_seq (dwR fun K hK => ?_)
 repeat refine evF ?_
 refine caF rfl ⟨rfl, _, rfl⟩ (by omega) (by first | exact may51) (DrawDistancesFrom_c (cutR bs h bs.length) (cut_bytes hby h _ hhl (Nat.le_refl _))) ?_
 rintro _ ⟨N1, x1, rfl, ht1⟩
 repeat refine evF ?_
 have dfk := @netZ.eq_1
 refine aops_end (hK _ (dwKF [2, 5, 6, 7, 11] ?_))
 clear hK K
 have hl1 := ht1.len
 refine dw_seq (dwR fun K hK => ?_)
 repeat refine evF ?_
 refine cisF rfl ⟨rfl, _, rfl⟩ (by omega) (by first | exact may52) (pick_c bs 0 0 (N1.ends.length : Int) _ hby (Nat.zero_le 0) (by omega)) ?_
 rintro _ ⟨p1, s1, _, rfl, hp1, x2, rfl, hx2⟩
 refine ioF ?_
 repeat refine evF ?_
 refine aops_end (hK _ (dwK [2, 5, 6, 7, 8, 11] ?_))
 clear hK K
 refine dw_join (X := Int) (fun z => True) (fun z => mkE 37 [(2, .box), (6, .box), (7, .c (.p (.int .i64 x1))), (8, .c (.p (.int .i64 z)))] [((2, 0), ⟨some 27, [.p (.slice none 0 0), .p (.slice none 0 0), .p (.slice none 0 0)]⟩), ((6, 0), ⟨some 27, [.sl false 82 1 (N1.ends.map (esC 35)), .sl false 3 1 (N1.ids.map iC), .sl false 3 1 (N1.inputs.map iC)]⟩)]) ?_ ?_
 ·refine dw_seq (dwR fun K hK => ?_)
  repeat refine evF ?_
  refine cisF rfl ⟨rfl, _, rfl⟩ (by omega) (by first | exact may53) (one_c bs p1 s1 24 _ hby hp1 (by omega)) ?_
  rintro _ ⟨p2, s2, _, rfl, hp2, b2, rfl⟩
  refine ioF ?_
  repeat refine evF ?_
  refine aops_end (hK _ (dwK [2, 5, 6, 7, 8, 11, 27] ?_))
  clear hK K
  refine dwI (fun hb => ?_) (fun hb => ?_)
  ·refine dwR fun K hK => ?_
   repeat refine evF ?_
   refine cisF rfl ⟨rfl, _, rfl⟩ (by omega) (by first | exact may54) (among_c bs p2 s2 true 3 [-1, (N1.ends.length : Int)] _ hby hp2 (by omega) (by simp) (by simp)) ?_
   rintro _ ⟨p3, s3, _, rfl, hp3, x3, rfl, hx3⟩
   refine ioF ?_
   repeat refine evF ?_
   refine aops_end (hK _ ?_)
   clear hK K
   show ∃ x, _ ∧ Weak _ _
   refine ⟨x3, ?_, (weak_keep _ [2, 6, 7, 8]).trans (Weak.of_eq (by simp only [bunK, C.at, C.put, List.dropLast, List.isPrefixOf, Nat.reduceMul, Nat.reduceLT, Nat.reduceLeDiff, Nat.reduceBEq, Nat.reduceEqDiff, reduceCtorEq, Nat.reduceAdd, ↓reduceIte] <;> exact rfl))⟩
   trivial
  ·refine dw_skip ?_
   show ∃ x, _ ∧ Weak _ _
   refine ⟨x2, ?_, (weak_keep _ [2, 6, 7, 8]).trans (Weak.of_eq (by simp only [bunK, C.at, C.put, List.dropLast, List.isPrefixOf, Nat.reduceMul, Nat.reduceLT, Nat.reduceLeDiff, Nat.reduceBEq, Nat.reduceEqDiff, reduceCtorEq, Nat.reduceAdd, ↓reduceIte] <;> exact rfl))⟩
   trivial
 ·rintro z -
  refine dw_seq (dwR fun K hK => ?_)
  repeat refine evF ?_
  refine aops_end (hK _ (dwK [2, 3, 4] ?_))
  clear hK K
  exact dw_ret (fin_retA Tryz.results7 (.three (.cell 2 _ _ _ _ rfl rfl tab27 rfl rfl rfl) (.re _ _ (.plain _ _ rfl)) (.re _ _ (.plain _ _ rfl))) (by decide) ⟨N1, _, _, rfl, ht1⟩)
end
end Go.Proofs.YtdiiggpohcjppaaGreat
