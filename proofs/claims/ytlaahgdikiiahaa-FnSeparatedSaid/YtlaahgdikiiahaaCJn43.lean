/- Parts of the proof, joined: Dne, Dan, Tnd, Dsp. -/
import Derived.Test.YtlaahgdikiiahaaCJn42
import Derived.Test.YtlaahgdikiiahaaCJn40
import Derived.Test.YtlaahgdikiiahaaCJn28
import Derived.Test.YtlaahgdikiiahaaCJn39
import Derived.Test.YtlaahgdikiiahaaCJn14
set_option linter.unusedSimpArgs false
set_option linter.unusedVariables false
namespace Go.Proofs.Ytlaahgdikiiahaa
section
open Go Go.RowKit
def netSt11 : Nat → Stat
 | 0 => ⟨[5], [(5, 1)], [], [35], [], []⟩
 | 1 => ⟨[0], [], [], [36], [], []⟩
 | 2 => ⟨[1], [], [], [37], [], []⟩
 | 3 => ⟨[37], [], [], [38], [], []⟩
 | 4 => ⟨[38], [], [], [39], [], []⟩
 | 5 => ⟨[36, 39], [], [95], [40], [(95, 1)], []⟩
 | 6 => ⟨[35, 40], [], [5, 40], [41], [], []⟩
 | 7 => ⟨[4, 41], [(4, 1)], [41], [], [(4, 1), (41, 1)], []⟩
 | _ => ⟨[], [], [], [], [], []⟩
def netSt16 : Nat → Stat
 | 0 => ⟨[0], [], [], [57], [], []⟩
 | 1 => ⟨[6], [(6, 1)], [], [58], [], []⟩
 | 2 => ⟨[58], [(6, 1)], [], [59], [], []⟩
 | 3 => ⟨[59], [(6, 1)], [], [60], [], []⟩
 | 4 => ⟨[57, 60], [], [95], [61], [(95, 1)], []⟩
 | 5 => ⟨[0], [], [], [62], [], []⟩
 | 6 => ⟨[6], [(6, 1)], [], [63], [], []⟩
 | 7 => ⟨[63], [(6, 1)], [], [64], [], []⟩
 | 8 => ⟨[64], [(6, 1)], [], [65], [], []⟩
 | 9 => ⟨[62, 65], [], [95], [66], [(95, 1)], []⟩
 | 10 => ⟨[61], [], [], [8], [], []⟩
 | 11 => ⟨[66], [], [], [9], [], []⟩
 | _ => ⟨[], [], [], [], [], []⟩
theorem dfxDne : type_of% (And.intro tab27 (And.intro @rowi (And.intro tab24 (And.intro tab38 (And.intro @if_pos.{1} (And.intro tab40 (And.intro @netO.eq_1 @trivial))))))) := And.intro tab27 (And.intro @rowi (And.intro tab24 (And.intro tab38 (And.intro @if_pos.{1} (And.intro tab40 (And.intro @netO.eq_1 @trivial))))))
set_option maxRecDepth 8000 in
set_option maxHeartbeats 0 in
theorem net_c (bs : List Int) (p : Nat) (s : Int) (m : Nat) (z : Int) (B : Nat) (hz : z = m) (hby : BytesOk bs) (hp : p ≤ B) (hB : B + 576460752303423488 ≤ 4611686018427387900) (hm1 : 1 ≤ m) (hm2 : m ≤ 38) : ACalls Try.prog 41 [.io 54 (curC bs p s), .c (.p (.int .i64 z))] (CurO bs (B + 576460752303423488) fun rs => ∃ N, rs = [.own true (netO N)] ∧ Drawn (m + 2) 400 N) := by
 subst hz
 have hmq : (m : Int).tdiv 2 + 1 = ((m / 2 + 1 : Nat) : Int) := by rw [Int.tdiv_eq_ediv_of_nonneg (by omega)]; omega
 refine iocalls_of Try.func41 rfl (by rw [Try.ntmps41]; simp) fun w0 => ?_
 rw [Try.ntmps41]
 have dfx := dfxDne
 simp only [initIO, argsL, Arg.av, curC]
 refine dw_seq (dwR fun K hK => ?_)
 repeat refine evF ?_
 refine aops_end (hK _ (dwK [0, 1, 4, 95] ?_))
 clear hK K
 refine dw_seq ?_
 refine dw_seq (dwR fun K hK => ?_)
 repeat refine evF ?_
 refine cisF rfl ⟨rfl, _, rfl⟩ (by omega) (by first | exact may24) (pick_c bs p s 6 _ hby hp (by omega)) ?_
 rintro _ ⟨p1, s1, _, rfl, hp1, x1, rfl, hx1⟩
 refine ioF ?_
 repeat refine evF ?_
 refine aops_end (hK _ (dwK [0, 1, 4, 11, 95] ?_))
 clear hK K
 refine dw_block ?_
 refine dw_seq (dwR fun K hK => ?_)
 repeat refine evF ?_
 refine aops_end (hK _ (dwK [0, 1, 4, 11, 12, 95] ?_))
 clear hK K
 refine dwI (fun hb => ?_) (fun hb => ?_)
 ·refine dw_seq (dwR fun K hK => ?_)
  repeat refine evF ?_
  refine ciaF rfl ⟨rfl, _, rfl⟩ (by omega) (by first | exact may54) (ring_c bs p1 s1 m _ (B + 2) rfl hby hp1 (by omega) (by omega) (by omega)) ?_
  rintro _ ⟨p2, s2, _, rfl, hp2, N2, rfl, ht2⟩
  refine ioF ?_
  repeat refine evF ?_
  refine aops_end (hK _ (dwK [4, 95] ?_))
  clear hK K
  exact dw_ret (fin_retIO Try.results41 Try.ntmps41 (.one (.re _ _ (.cell 4 _ _ _ _ rfl rfl tab27 rfl rfl (netO_owned N2)))) (by decide) (by decide) rfl rfl rfl ⟨p2, s2, _, rfl, by omega, N2, rfl, ht2.mono (by omega) (by omega)⟩)
 ·refine dw_seq (dwR fun K hK => ?_)
  repeat refine evF ?_
  refine aops_end (hK _ (dwK [0, 1, 4, 11, 17, 95] ?_))
  clear hK K
  refine dwI (fun hb => ?_) (fun hb => ?_)
  ·refine dw_seq (dwR fun K hK => ?_)
   repeat refine evF ?_
   refine ciaF rfl ⟨rfl, _, rfl⟩ (by omega) (by first | exact may61) (tree_c bs p1 s1 m _ (B + 2) rfl hby hp1 (by omega) (by omega) (by omega)) ?_
   rintro _ ⟨p3, s3, _, rfl, hp3, N3, rfl, ht3⟩
   refine ioF ?_
   repeat refine evF ?_
   refine aops_end (hK _ (dwK [4, 95] ?_))
   clear hK K
   exact dw_ret (fin_retIO Try.results41 Try.ntmps41 (.one (.re _ _ (.cell 4 _ _ _ _ rfl rfl tab27 rfl rfl (netO_owned N3)))) (by decide) (by decide) rfl rfl rfl ⟨p3, s3, _, rfl, by omega, N3, rfl, ht3.mono (by omega) (by omega)⟩)
  ·refine dw_join (X := Bool) (fun b => True) (fun b => mkE 95 [(0, .ptr 95 0 [(0, 0)] 0), (1, .c (.p (.int .i64 m))), (4, .box), (11, .c (.p (.int .i64 x1))), (22, .c (.p (.bool b))), (95, .dead)] [((4, 0), ⟨some 27, [.p (.slice none 0 0), .p (.slice none 0 0), .p (.slice none 0 0)]⟩), ((95, 0), ⟨some 54, [.sl false 5 1 (bs.map bC), .p (.int .i64 p1), .p (.int .u64 s1)]⟩)]) ?_ ?_
   ·refine dw_seq (dwR fun K hK => ?_)
    repeat refine evF ?_
    refine aops_end (hK _ (dwK [0, 1, 4, 11, 22, 95] ?_))
    clear hK K
    refine dwI (fun hb => ?_) (fun hb => ?_)
    ·refine dw_skip ?_
     show ∃ x, _ ∧ Weak _ _
     refine ⟨(x1 == (2 : Int)), ?_, (weak_keep _ [0, 1, 4, 11, 22, 95]).trans (Weak.of_eq (by simp only [bunK, C.at, C.put, List.dropLast, List.isPrefixOf, Nat.reduceMul, Nat.reduceLT, Nat.reduceLeDiff, Nat.reduceBEq, Nat.reduceEqDiff, reduceCtorEq, Nat.reduceAdd, ↓reduceIte] <;> exact rfl))⟩
     trivial
    ·refine dwR fun K hK => ?_
     repeat refine evF ?_
     refine aops_end (hK _ ?_)
     clear hK K
     show ∃ x, _ ∧ Weak _ _
     refine ⟨(x1 == (3 : Int)), ?_, (weak_keep _ [0, 1, 4, 11, 22, 95]).trans (Weak.of_eq (by simp only [bunK, C.at, C.put, List.dropLast, List.isPrefixOf, Nat.reduceMul, Nat.reduceLT, Nat.reduceLeDiff, Nat.reduceBEq, Nat.reduceEqDiff, reduceCtorEq, Nat.reduceAdd, ↓reduceIte] <;> exact rfl))⟩
     trivial
   ·rintro b -
    refine dwI (fun hb => ?_) (fun hb => ?_)
    ·refine dw_seq (dwR fun K hK => ?_)
     repeat refine evF ?_
     refine ciaF rfl ⟨rfl, _, rfl⟩ (by omega) (by first | exact may62) (simple_c bs p1 s1 m _ (B + 2) rfl hby hp1 (by omega) (by omega) (by omega)) ?_
     rintro _ ⟨p5, s5, _, rfl, hp5, N5, rfl, ht5⟩
     refine ioF ?_
     repeat refine evF ?_
     refine aops_end (hK _ (dwK [4, 95] ?_))
     clear hK K
     exact dw_ret (fin_retIO Try.results41 Try.ntmps41 (.one (.re _ _ (.cell 4 _ _ _ _ rfl rfl tab27 rfl rfl (netO_owned N5)))) (by decide) (by decide) rfl rfl rfl ⟨p5, s5, _, rfl, by omega, N5, rfl, ht5.mono (by omega) (by omega)⟩)
    ·refine dw_seq (dwR fun K hK => ?_)
     repeat refine evF ?_
     refine aops_end (hK _ (dwK [0, 1, 4, 28, 95] ?_))
     clear hK K
     refine dwI (fun hb => ?_) (fun hb => ?_)
     ·have dfx := And.intro dfx (@hmq)
      refine dw_seq (dwR fun K hK => ?_)
      repeat refine evF ?_
      have dfx := And.intro dfx (@hmq)
      refine ciaF rfl ⟨rfl, _, rfl⟩ (by omega) (by first | exact may62) (simple_c bs p1 s1 (m / 2 + 1) _ (B + 2) rfl hby hp1 (by omega) (by omega) (by omega)) ?_
      rintro _ ⟨p6, s6, _, rfl, hp6, N6, rfl, ht6⟩
      refine ioF ?_
      repeat refine evF ?_
      refine aops_end (hK _ (dwK [0, 1, 4, 5, 95] ?_))
      clear hK K
      have hs6 : Small N6 := ht6.small (by omega) (by omega)
      have dfx := And.intro dfx (And.intro @netSt11.eq_def @hmq)
      refine dw_seq (dwRD netSt11 (fun j r => match j with | 5 => CurO bs (B + 2 + 144115188075855872 + 72057594037927936) (fun rs => ∃ N, rs = [.own true (netO N)] ∧ Drawn (m / 2 + 1) 80 N) r | 6 => ∃ U, r = [.own true (netO U)] ∧ Drawn (m + 2) 400 U | _ => True) fun K hK => ?_)
      repeat refine dvF ?_
      have dfx := And.intro dfx (And.intro @netSt11.eq_def @hmq)
      refine diaF rfl ⟨rfl, _, rfl⟩ (by omega) (by first | exact may54 | exact may36) (ring_c bs p6 s6 (m / 2 + 1) _ (B + 2 + 144115188075855872) rfl hby hp6 (by omega) (by omega) (by omega)) (CurO.ex ⟨_, emptyN 1, rfl, (Drawn.empty (Nat.le_refl _) (by omega)).mono (Nat.le_refl _) (by omega)⟩) ?_
      rintro _ ⟨p7, s7, _, rfl, hp7, N7, rfl, ht7⟩
      refine dioF ?_
      repeat refine dvF ?_
      have dfx := And.intro dfx (And.intro @netSt11.eq_def @hmq)
      refine dxF rfl ⟨rfl, _, rfl⟩ (by omega) (by first | exact may54 | exact may36) ((neUnion_o N6 N7 hs6 (ht7.small (by omega) (by omega)) ht7.sym).mono (fun r hr => ⟨_, hr, (ht6.union ht7).mono (by omega) (by omega)⟩)) rfl (⟨_, emptyN 1, rfl, (Drawn.empty (Nat.le_refl _) (by omega)).mono (Nat.le_refl _) (by omega)⟩) ?_
      rintro _ ⟨U, rfl, hU⟩
      repeat refine dvF ?_
      refine dops_end (hK _ (dwK [4, 95] ?_))
      clear hK K
      exact dw_ret (fin_retIO Try.results41 Try.ntmps41 (.one (.re _ _ (.cell 4 _ _ _ _ rfl rfl tab27 rfl rfl (netO_owned U)))) (by decide) (by decide) rfl rfl rfl ⟨p7, s7, _, rfl, by omega, U, rfl, hU⟩)
     ·refine dw_skip ?_
      show DW _ _ _ _ _
      refine dw_seq (dwR fun K hK => ?_)
      repeat refine evF ?_
      refine cisF rfl ⟨rfl, _, rfl⟩ (by omega) (by first | exact may24 | exact may63) (pick_c bs p1 s1 m _ hby hp1 (by omega)) ?_
      rintro _ ⟨p8, s8, _, rfl, hp8, y, rfl, hy⟩
      refine ioF ?_
      repeat refine evF ?_
      obtain ⟨n, hyn, hn1, hn2⟩ : ∃ n : Nat, (1 : Int) + y = n ∧ 1 ≤ n ∧ n ≤ m := ⟨(1 + y).toNat, by have := hy.1; omega, by have := hy.1; omega, by have := hy.2.2; omega⟩
      rw [hyn]
      refine clF rfl ⟨rfl, _, rfl⟩ (by omega) (by first | exact may24 | exact may63) (neEmpty_d n (by omega)) ?_
      rintro _ rfl
      repeat refine evF ?_
      have hel : (emptyN n).ends.length = n := by simp [emptyN]
      refine aops_end (hK _ (dwK [0, 4, 6, 95] ?_))
      clear hK K
      refine dw_seq ?_
      have dfx := And.intro dfx (@hel)
      refine dw_seq (dwR fun K hK => ?_)
      repeat refine evF ?_
      have dfx := And.intro dfx (@hel)
      refine cisF rfl ⟨rfl, _, rfl⟩ (by omega) (by first | exact may24) (pick_c bs p8 s8 ((2 : Int) * (n : Int)) _ hby hp8 (by omega)) ?_
      rintro _ ⟨p9, s9, _, rfl, hp9, y2, rfl, hy2⟩
      refine ioF ?_
      repeat refine evF ?_
      obtain ⟨k0, rfl⟩ : ∃ k0 : Nat, y2 = k0 := ⟨y2.toNat, by have := hy2.1; omega⟩
      have hk0 : k0 ≤ 80 := by have := hy2.2.2; omega
      refine aops_end (hK _ (dwK [0, 4, 6, 7, 95] ?_))
      clear hK K
      refine dw_block ?_
      refine dw_loopP (X := Net × Nat × Nat × Int) (fun x => x.2.1 ≤ 80 ∧ Drawn m (2 * (80 - x.2.1)) x.1 ∧ x.2.2.1 ≤ B + 2 + 2 + 2 + 6 * (80 - x.2.1)) (fun x => [(7, .c (.p (.int .i64 x.2.1)))]) (fun x => [((6, 0), ⟨some 27, [.sl true 38 1 (x.1.ends.map (esC 40)), .sl true 3 1 (x.1.ids.map iC), .sl true 3 1 (x.1.inputs.map iC)]⟩), ((95, 0), ⟨some 54, [.sl false 5 1 (bs.map bC), .p (.int .i64 x.2.2.1), .p (.int .u64 x.2.2.2)]⟩)]) (fun x => x.2.1) (emptyN n, k0, p9, s9) ⟨hk0, (Drawn.empty hn1 hn2).mono (Nat.le_refl _) (by dsimp only; omega), by dsimp only; omega⟩ (by first | rfl | (simp only [bunK, C.at, C.put, List.dropLast, List.isPrefixOf, Nat.reduceMul, Nat.reduceLT, Nat.reduceLeDiff, Nat.reduceBEq, Nat.reduceEqDiff, reduceCtorEq, Nat.reduceAdd, ↓reduceIte, Int.natCast_zero] <;> rfl)) ?_
      rintro ⟨N, k, q, u⟩ ⟨hk, hD, hq⟩
      intro E hE
      simp only [bunK, C.at, C.put, List.dropLast, List.isPrefixOf, Nat.reduceMul, Nat.reduceLT, Nat.reduceLeDiff, Nat.reduceBEq, Nat.reduceEqDiff, reduceCtorEq, Nat.reduceAdd, ↓reduceIte] at hE
      subst hE
      dsimp only at hk hD hq ⊢
      have hsm : Small N := hD.small (by omega) (by omega)
      have hdl := hD.len
      have hdp := hD.pos
      have hdi := hD.ids
      have hdn := hD.ins
      refine dw_seq ?_
      refine dw_seq (dwR fun K hK => ?_)
      repeat refine evF ?_
      refine aops_end (hK _ (dwK [0, 4, 6, 7, 54, 95] ?_))
      clear hK K
      refine dwI (fun hb => ?_) (fun hb => ?_)
      ·obtain ⟨k, rfl⟩ : ∃ k', k = k' + 1 := ⟨k - 1, by simp at hb; omega⟩
       have hkc : (((k + 1 : Nat) : Int) - 1) = (k : Int) := by omega
       refine dw_skip ?_
       show DW _ _ _ _ _
       refine dw_seq (dw_block ?_)
       have dfx := And.intro dfx (@netSt16.eq_def)
       refine dw_seq (dwRD netSt16 (fun j r => match j with | 4 => CurO bs (B + 2 + 2 + 2 + 6 * (80 - (k + 1)) + 2) (fun rs => ∃ x, rs = [.c (.p (.int .i64 x))] ∧ pickP (N.ends.length : Int) x) r | 9 => CurO bs (B + 2 + 2 + 2 + 6 * (80 - (k + 1)) + 2 + 2) (fun rs => ∃ x, rs = [.c (.p (.int .i64 x))] ∧ pickP (N.ends.length : Int) x) r | _ => True) fun K hK => ?_)
       repeat refine dvF ?_
       have dfx := And.intro dfx (@netSt16.eq_def)
       refine disF rfl ⟨rfl, _, rfl⟩ (by omega) (by first | exact may24) (pick_c bs q u (N.ends.length : Int) (B + 2 + 2 + 2 + 6 * (80 - (k + 1))) hby hq (by omega)) (CurO.ex ⟨_, 0, rfl, pick0 _⟩) ?_
       rintro _ ⟨q3, u3, _, rfl, hq3, y3, rfl, hy3⟩
       refine dioF ?_
       repeat refine dvF ?_
       have dfx := And.intro dfx (@netSt16.eq_def)
       refine disF rfl ⟨rfl, _, rfl⟩ (by omega) (by first | exact may24) (pick_c bs q3 u3 (N.ends.length : Int) (B + 2 + 2 + 2 + 6 * (80 - (k + 1)) + 2) hby hq3 (by omega)) (CurO.ex ⟨_, 0, rfl, pick0 _⟩) ?_
       rintro _ ⟨q4, u4, _, rfl, hq4, y4, rfl, hy4⟩
       refine dioF ?_
       repeat refine dvF ?_
       obtain ⟨a, rfl⟩ : ∃ a : Nat, y3 = a := ⟨y3.toNat, by have := hy3.1; omega⟩
       obtain ⟨b, rfl⟩ : ∃ b : Nat, y4 = b := ⟨y4.toNat, by have := hy4.1; omega⟩
       have ha : a < N.ends.length := by have := hy3.2.2; omega
       have hbN : b < N.ends.length := by have := hy4.2.2; omega
       refine dops_end (hK _ (dwK [0, 4, 6, 7, 8, 9, 95] ?_))
       clear hK K
       refine dw_seq ?_
       have dfx := And.intro dfx (@rowes)
       refine dw_seq (dwR fun K hK => ?_)
       repeat refine evF ?_
       obtain h1 | h1 := Bool.eq_false_or_eq_true (decide (((gl N.ends a).length : Int) > 4))
       ·have dfx := And.intro dfx (@h1)
        repeat refine evF ?_
        refine aops_end (hK _ (dwK [0, 4, 6, 7, 8, 9, 82, 95] ?_))
        clear hK K
        refine dwI (fun hb => ?_) (fun hb => ?_)
        ·refine dw_leave2 ?_
         refine dw_keep [0, 4, 6, 7, 95] (by simp only [bunK, C.at, C.put, List.dropLast, List.isPrefixOf, Nat.reduceMul, Nat.reduceLT, Nat.reduceLeDiff, Nat.reduceBEq, Nat.reduceEqDiff, reduceCtorEq, Nat.reduceAdd, ↓reduceIte]; exact rfl) ?_
         refine dwR fun K hK => ?_
         repeat refine evF ?_
         have dfk := @hkc
         refine aops_end (hK _ ?_)
         clear hK K
         show ∃ x, _ ∧ _ ∧ Weak _ _
         refine ⟨(N, k, q4, u4), ?_, ?_, weakFk [0, 4, 6, 7, 95]⟩
         ·exact ⟨by dsimp only; omega, hD.mono (Nat.le_refl _) (by dsimp only; omega), by dsimp only; omega⟩
         ·dsimp only; omega
        ·cases hb
       ·have dfx := And.intro dfx (And.intro @h1 @rowes)
        repeat refine evF ?_
        refine aops_end (hK _ (dwK [0, 4, 6, 7, 8, 9, 82, 95] ?_))
        clear hK K
        refine dwI (fun hb => ?_) (fun hb => ?_)
        ·refine dw_leave2 ?_
         refine dw_keep [0, 4, 6, 7, 95] (by simp only [bunK, C.at, C.put, List.dropLast, List.isPrefixOf, Nat.reduceMul, Nat.reduceLT, Nat.reduceLeDiff, Nat.reduceBEq, Nat.reduceEqDiff, reduceCtorEq, Nat.reduceAdd, ↓reduceIte]; exact rfl) ?_
         refine dwR fun K hK => ?_
         repeat refine evF ?_
         have dfk := @hkc
         refine aops_end (hK _ ?_)
         clear hK K
         show ∃ x, _ ∧ _ ∧ Weak _ _
         refine ⟨(N, k, q4, u4), ?_, ?_, weakFk [0, 4, 6, 7, 95]⟩
         ·exact ⟨by dsimp only; omega, hD.mono (Nat.le_refl _) (by dsimp only; omega), by dsimp only; omega⟩
         ·dsimp only; omega
        ·refine dw_skip ?_
         show DW _ _ _ _ _
         refine dw_seq (dwR fun K hK => ?_)
         repeat refine evF ?_
         refine cisF rfl ⟨rfl, _, rfl⟩ (by omega) (by first | exact may42) (one_c bs q4 u4 5 _ hby hq4 (by omega)) ?_
         rintro _ ⟨q5, u5, _, rfl, hq5, b5, rfl⟩
         refine ioF ?_
         repeat refine evF ?_
         refine aops_end (hK _ (dwK [0, 4, 6, 7, 8, 9, 84, 95] ?_))
         clear hK K
         refine dwI (fun hb => ?_) (fun hb => ?_)
         ·refine dwR fun K hK => ?_
          repeat refine evF ?_
          refine clF rfl ⟨rfl, _, rfl⟩ (by omega) (by first | exact may64) (neStub_o N a hsm ha) ?_
          rintro _ rfl
          repeat refine evF ?_
          refine aops_end (hK _ (dwK [0, 4, 6, 7, 95] ?_))
          clear hK K
          refine dwR fun K hK => ?_
          repeat refine evF ?_
          have dfk := @hkc
          refine aops_end (hK _ ?_)
          clear hK K
          show ∃ x, _ ∧ _ ∧ Weak _ _
          refine ⟨(stubN N a, k, q5, u5), ?_, ?_, weakFk [0, 4, 6, 7, 95]⟩
          ·exact ⟨by dsimp only; omega, (hD.stub ha).mono (Nat.le_refl _) (by dsimp only; omega), by dsimp only; omega⟩
          ·dsimp only; omega
         ·refine dwR fun K hK => ?_
          repeat refine evF ?_
          refine clF rfl ⟨rfl, _, rfl⟩ (by omega) (by first | exact may65) (neJoin_o N a b hsm ha hbN) ?_
          rintro _ rfl
          repeat refine evF ?_
          refine aops_end (hK _ (dwK [0, 4, 6, 7, 95] ?_))
          clear hK K
          refine dwR fun K hK => ?_
          repeat refine evF ?_
          have dfk := @hkc
          refine aops_end (hK _ ?_)
          clear hK K
          show ∃ x, _ ∧ _ ∧ Weak _ _
          refine ⟨(joinN N a b, k, q5, u5), ?_, ?_, weakFk [0, 4, 6, 7, 95]⟩
          ·exact ⟨by dsimp only; omega, (hD.join ha hbN).mono (Nat.le_refl _) (by dsimp only; omega), by dsimp only; omega⟩
          ·dsimp only; omega
      ·refine dw_leave3 ?_
       refine dw_keep [0, 4, 6, 95] (by simp only [bunK, C.at, C.put, List.dropLast, List.isPrefixOf, Nat.reduceMul, Nat.reduceLT, Nat.reduceLeDiff, Nat.reduceBEq, Nat.reduceEqDiff, reduceCtorEq, Nat.reduceAdd, ↓reduceIte]; exact rfl) ?_
       refine dw_seq (dwR fun K hK => ?_)
       repeat refine evF ?_
       refine giF rfl ⟨rfl, _, rfl⟩ (by omega) (by first | exact may66) (mixed_g bs q u N (B + 600) hby (by omega) (by omega) (by omega) (fun a _ => by have := hD.deg a; unfold dg at this; omega) (by omega) (by omega) hD.sym) ?_
       rintro _ ⟨q9, u9, _, rfl, hq9, M, rfl, hM⟩
       refine ioGF ?_
       repeat refine evF ?_
       refine aops_end (hK _ (dwK [4, 95] ?_))
       clear hK K
       exact dw_ret (fin_retIO Try.results41 Try.ntmps41 (.one (.re _ _ (.cell 4 _ _ _ _ rfl rfl tab27 rfl rfl (netO_owned M)))) (by decide) (by decide) rfl rfl rfl ⟨q9, u9, _, rfl, by omega, M, rfl, (hD.mono (by omega) (by omega)).alike hM⟩)
end
section
open Go Go.RowKit
theorem dfxDan : type_of% (And.intro tab27 (And.intro @rowi (And.intro tab24 (And.intro tab38 (And.intro @if_pos.{1} (And.intro tab40 (And.intro @netO.eq_1 (And.intro @netZ.eq_1 @trivial)))))))) := And.intro tab27 (And.intro @rowi (And.intro tab24 (And.intro tab38 (And.intro @if_pos.{1} (And.intro tab40 (And.intro @netO.eq_1 (And.intro @netZ.eq_1 @trivial)))))))
set_option maxRecDepth 8000 in
set_option maxHeartbeats 0 in
theorem anyNet_c (bs : List Int) (p : Nat) (s : Int) (m : Nat) (z : Int) (B : Nat) (hz : z = m) (hby : BytesOk bs) (hp : p ≤ B) (hB : B + 576460752340000000 ≤ 4611686018427387900) (hm1 : 1 ≤ m) (hm2 : m ≤ 38) : ACalls Try.prog 23 [.io 54 (curC bs p s), .c (.p (.int .i64 z))] (CurO bs (B + 576460752340000000) fun rs => ∃ N, rs = [.own true (netO N)] ∧ Tame N) := by
 subst hz
 refine iocalls_of Try.func23 rfl (by rw [Try.ntmps23]; simp) fun w0 => ?_
 rw [Try.ntmps23]
 have dfx := dfxDan
 simp only [initIO, argsL, Arg.av, curC]
 refine dw_seq (dwR fun K hK => ?_)
 repeat refine evF ?_
 refine aops_end (hK _ (dwK [0, 1, 4, 17] ?_))
 clear hK K
 refine dw_seq (dwR fun K hK => ?_)
 repeat refine evF ?_
 refine ciaF rfl ⟨rfl, _, rfl⟩ (by omega) (by first | exact may41) (net_c bs p s m _ B rfl hby hp (by omega) (by omega) (by omega)) ?_
 rintro _ ⟨p1, s1, _, rfl, hp1, N1, rfl, ht1⟩
 refine ioF ?_
 repeat refine evF ?_
 refine aops_end (hK _ (dwK [0, 4, 5, 17] ?_))
 clear hK K
 have hD1 : Drawn 40 500 N1 := ht1.mono (by omega) (by omega)
 refine dw_frz 5 [0, 4, 5, 17] (by simp only [bunK, C.at, C.put, List.dropLast, List.isPrefixOf, Nat.reduceMul, Nat.reduceLT, Nat.reduceLeDiff, Nat.reduceBEq, Nat.reduceEqDiff, reduceCtorEq, Nat.reduceAdd, ↓reduceIte]; exact rfl) ?_
 refine dw_join (X := Net × Nat × Int) (fun x => Drawn 40 500 x.1 ∧ x.2.1 ≤ B + 576460752303423488 + 2 + 4194304) (fun x => mkE 17 [(0, .ptr 17 0 [(0, 0)] 0), (4, .box), (5, .box), (17, .dead)] [((4, 0), ⟨some 27, [.p (.slice none 0 0), .p (.slice none 0 0), .p (.slice none 0 0)]⟩), ((5, 0), ⟨some 27, [.sl false 38 1 (x.1.ends.map (esC 40)), .sl false 3 1 (x.1.ids.map iC), .sl false 3 1 (x.1.inputs.map iC)]⟩), ((17, 0), ⟨some 54, [.sl false 5 1 (bs.map bC), .p (.int .i64 x.2.1), .p (.int .u64 x.2.2)]⟩)]) ?_ ?_
 ·refine dw_seq (dwR fun K hK => ?_)
  repeat refine evF ?_
  refine cisF rfl ⟨rfl, _, rfl⟩ (by omega) (by first | exact may42) (one_c bs p1 s1 3 _ hby hp1 (by omega)) ?_
  rintro _ ⟨p2, s2, _, rfl, hp2, b2, rfl⟩
  refine ioF ?_
  repeat refine evF ?_
  refine aops_end (hK _ (dwK [0, 4, 5, 10, 17] ?_))
  clear hK K
  refine dwI (fun hb => ?_) (fun hb => ?_)
  ·refine dwR fun K hK => ?_
   repeat refine evF ?_
   refine ciaF rfl ⟨rfl, _, rfl⟩ (by omega) (by first | exact may43) (withIds_c bs p2 s2 NFz N1 (B + 576460752303423488 + 2) hby hp2 (by omega) (hD1.small (by omega) (by omega))) ?_
   rintro _ ⟨p3, s3, _, rfl, hp3, M, rfl, hM⟩
   refine ioF ?_
   repeat refine evF ?_
   refine aops_end (hK _ ?_)
   clear hK K
   show ∃ x, _ ∧ Weak _ _
   refine ⟨(M, p3, s3), ?_, ((weak_frz _ 5).trans (weak_keep _ [0, 4, 5, 17])).trans (Weak.of_eq (by simp only [bunK, C.at, C.put, List.dropLast, List.isPrefixOf, Nat.reduceMul, Nat.reduceLT, Nat.reduceLeDiff, Nat.reduceBEq, Nat.reduceEqDiff, reduceCtorEq, Nat.reduceAdd, ↓reduceIte] <;> exact rfl))⟩
   exact ⟨hD1.withIds hM, hp3⟩
  ·refine dw_skip ?_
   show ∃ x, _ ∧ Weak _ _
   refine ⟨(N1, p2, s2), ?_, (weak_keep _ [0, 4, 5, 17]).trans (Weak.of_eq (by simp only [bunK, C.at, C.put, List.dropLast, List.isPrefixOf, Nat.reduceMul, Nat.reduceLT, Nat.reduceLeDiff, Nat.reduceBEq, Nat.reduceEqDiff, reduceCtorEq, Nat.reduceAdd, ↓reduceIte] <;> exact rfl))⟩
   exact ⟨hD1, by dsimp only; omega⟩
 ·rintro ⟨M, p4, s4⟩ ⟨hD, hp4⟩
  dsimp only at hD hp4 ⊢
  refine dw_seq (dwR fun K hK => ?_)
  repeat refine evF ?_
  refine ciaF rfl ⟨rfl, _, rfl⟩ (by omega) (by first | exact may44) (neBend_c bs p4 s4 NFz M (B + 576460752303423488 + 2 + 4194304) hby hp4 (by omega) hD) ?_
  rintro _ ⟨p5, s5, _, rfl, hp5, M2, rfl, hT⟩
  refine ioF ?_
  repeat refine evF ?_
  refine aops_end (hK _ (dwK [4, 17] ?_))
  clear hK K
  exact dw_ret (fin_retIO Try.results23 Try.ntmps23 (.one (.re _ _ (.cell 4 _ _ _ _ rfl rfl tab27 rfl rfl (netO_owned M2)))) (by decide) (by decide) rfl rfl rfl ⟨p5, s5, _, rfl, by omega, M2, rfl, hT⟩)
end
section
open Go Go.RowKit
theorem neGood_d (f : NF) (N : Net) : DCalls Try.prog 50 [.agg (netC f N)] (fun r => r = [.c (.p (.bool (goodB N)))]) := dcalls_v fun w vs h1 h2 => by
 obtain ⟨u, rfl, g1⟩ := args1 h1 h2
 exact neGood_any u N w (argN g1)
theorem tame_cyc {n : Nat} (hn : n ≤ 60) : Tame (cycN n n) :=
 ⟨by rw [cyc_len]; omega, fun a => by
  unfold dg gl
  rcases Nat.lt_or_ge a n with h | h
  ·simp [cycN, h, cycRow]
  ·simp [cycN, h], by simp [cycN], by simp [cycN]; omega⟩
theorem tame_dbl {N : Net} (h : Tame N) (hl : N.ends.length ≤ 30) : Tame (dblN N N.ends.length) :=
 ⟨by show (dblR N.ends N.ends.length 0).length ≤ 64; rw [dblR_len]; omega, fun a => by
  show (gl (dblR N.ends N.ends.length 0) a).length ≤ 600
  have key : ∀ b, (gl N.ends b).length ≤ 600 := h.deg
  rw [show gl (dblR N.ends N.ends.length 0) a = (dblR N.ends N.ends.length 0).getD a [] from rfl]
  unfold dblR
  rw [List.getD_eq_getElem?_getD, List.getElem?_map]
  cases hr : (List.range (2 * N.ends.length))[a]? with
  | none => simp
  | some b =>
   simp only [Option.map_some, Option.getD_some]
   split
   ·rw [List.length_map, List.length_take]
    have := key b; omega
   ·rw [List.length_take]
    have := key (b - N.ends.length); omega, by simp [dblN], by show (dblI N N.ends.length).length ≤ 64; rw [dblI_len]; omega⟩
def TwoP (rs : List RV) : Prop := ∃ N1 N2 x y, rs = [.agg (netZ N1), .c (.p (.int .i64 x)), .agg (netZ N2), .c (.p (.int .i64 y))] ∧ Tame N1 ∧ Tame N2
def twoNodesSt11 : Nat → Stat
 | 0 => ⟨[6], [(6, 1)], [], [37], [], []⟩
 | 1 => ⟨[0], [], [], [38], [], []⟩
 | 2 => ⟨[6], [(6, 1)], [], [39], [], []⟩
 | 3 => ⟨[39], [(6, 1)], [], [40], [], []⟩
 | 4 => ⟨[40], [], [], [41], [], []⟩
 | 5 => ⟨[38, 41], [], [57], [42], [(57, 1)], []⟩
 | 6 => ⟨[0], [], [], [43], [], []⟩
 | 7 => ⟨[43], [], [57], [44], [(57, 1)], []⟩
 | 8 => ⟨[44], [], [], [45], [], []⟩
 | 9 => ⟨[42, 45], [], [], [46], [], []⟩
 | 10 => ⟨[7], [(7, 1)], [], [47], [], []⟩
 | 11 => ⟨[0], [], [], [48], [], []⟩
 | 12 => ⟨[7], [(7, 1)], [], [49], [], []⟩
 | 13 => ⟨[49], [(7, 1)], [], [50], [], []⟩
 | 14 => ⟨[50], [], [], [51], [], []⟩
 | 15 => ⟨[48, 51], [], [57], [52], [(57, 1)], []⟩
 | 16 => ⟨[0], [], [], [53], [], []⟩
 | 17 => ⟨[53], [], [57], [54], [(57, 1)], []⟩
 | 18 => ⟨[54], [], [], [55], [], []⟩
 | 19 => ⟨[52, 55], [], [], [56], [], []⟩
 | 20 => ⟨[2, 37], [(2, 1)], [], [], [(2, 1)], []⟩
 | 21 => ⟨[46], [], [], [3], [], []⟩
 | 22 => ⟨[4, 47], [(4, 1)], [], [], [(4, 1)], []⟩
 | 23 => ⟨[56], [], [], [5], [], []⟩
 | _ => ⟨[], [], [], [], [], []⟩
theorem dfxTnd : type_of% (And.intro tab27 (And.intro @netO.eq_1 (And.intro @rowi (And.intro tab24 (And.intro tab38 @trivial))))) := And.intro tab27 (And.intro @netO.eq_1 (And.intro @rowi (And.intro tab24 (And.intro tab38 @trivial))))
set_option maxRecDepth 8000 in
set_option maxHeartbeats 0 in
theorem twoNodes_c (bs : List Int) (p : Nat) (s : Int) (B : Nat) (hby : BytesOk bs) (hp : p ≤ B) (hB : B + 1300000000000000000 ≤ 4611686018427387900) : ACalls Try.prog 34 [.io 54 (curC bs p s)] (CurO bs (B + 1300000000000000000) TwoP) := by
 refine iocalls_of Try.func34 rfl (by rw [Try.ntmps34]; simp) fun w0 => ?_
 rw [Try.ntmps34]
 have dfx := dfxTnd
 simp only [initIO, argsL, Arg.av, curC]
 refine dw_seq (dwR fun K hK => ?_)
 repeat refine evF ?_
 refine aops_end (hK _ (dwK [0, 2, 3, 4, 5, 57] ?_))
 clear hK K
 refine dw_seq (dwR fun K hK => ?_)
 repeat refine evF ?_
 refine ciaF rfl ⟨rfl, _, rfl⟩ (by omega) (by first | exact may23) (anyNet_c bs p s 7 _ B rfl hby hp (by omega) (by omega) (by omega)) ?_
 rintro _ ⟨p1, s1, _, rfl, hp1, N1, rfl, ht1⟩
 refine ioF ?_
 repeat refine evF ?_
 have dfk := @netO.eq_1
 refine aops_end (hK _ (dwKF [0, 2, 3, 4, 5, 6, 57] ?_))
 clear hK K
 refine dw_frz 6 [0, 2, 3, 4, 5, 6, 57] (by simp only [bunK, C.at, C.put, List.dropLast, List.isPrefixOf, Nat.reduceMul, Nat.reduceLT, Nat.reduceLeDiff, Nat.reduceBEq, Nat.reduceEqDiff, reduceCtorEq, Nat.reduceAdd, ↓reduceIte]; exact rfl) ?_
 refine dw_seq (dwR fun K hK => ?_)
 repeat refine evF ?_
 refine aops_end (hK _ (dwK [0, 2, 3, 4, 5, 6, 7, 57] ?_))
 clear hK K
 refine dw_join (X := Net × Net × Nat × Int) (fun z => Tame z.1 ∧ Tame z.2.1 ∧ z.2.2.1 ≤ B + 1200000000000000000) (fun z => mkE 57 [(0, .ptr 57 0 [(0, 0)] 0), (2, .box), (3, .c (.p (.int .i64 0))), (4, .box), (5, .c (.p (.int .i64 0))), (6, .box), (7, .box), (57, .dead)] [((2, 0), ⟨some 27, [.p (.slice none 0 0), .p (.slice none 0 0), .p (.slice none 0 0)]⟩), ((4, 0), ⟨some 27, [.p (.slice none 0 0), .p (.slice none 0 0), .p (.slice none 0 0)]⟩), ((6, 0), ⟨some 27, [.sl false 38 1 (z.1.ends.map (esC 40)), .sl false 3 1 (z.1.ids.map iC), .sl false 3 1 (z.1.inputs.map iC)]⟩), ((7, 0), ⟨some 27, [.sl false 38 1 (z.2.1.ends.map (esC 40)), .sl false 3 1 (z.2.1.ids.map iC), .sl false 3 1 (z.2.1.inputs.map iC)]⟩), ((57, 0), ⟨some 54, [.sl false 5 1 (bs.map bC), .p (.int .i64 z.2.2.1), .p (.int .u64 z.2.2.2)]⟩)]) ?_ ?_
 ·refine dw_seq (dwR fun K hK => ?_)
  repeat refine evF ?_
  refine cisF rfl ⟨rfl, _, rfl⟩ (by omega) (by first | exact may24) (pick_c bs p1 s1 4 _ hby hp1 (by omega)) ?_
  rintro _ ⟨p2, s2, _, rfl, hp2, x2, rfl, hx2⟩
  refine ioF ?_
  repeat refine evF ?_
  refine aops_end (hK _ (dwK [0, 2, 3, 4, 5, 6, 7, 12, 57] ?_))
  clear hK K
  refine dw_block ?_
  refine dw_seq (dwR fun K hK => ?_)
  repeat refine evF ?_
  refine aops_end (hK _ (dwK [0, 2, 3, 4, 5, 6, 7, 12, 13, 57] ?_))
  clear hK K
  refine dwI (fun hb => ?_) (fun hb => ?_)
  ·refine dwR fun K hK => ?_
   repeat refine evF ?_
   refine ciaF rfl ⟨rfl, _, rfl⟩ (by omega) (by first | exact may23) (anyNet_c bs p2 s2 7 _ _ rfl hby hp2 (by omega) (by omega) (by omega)) ?_
   rintro _ ⟨p3, s3, _, rfl, hp3, N2, rfl, ht2⟩
   refine ioF ?_
   repeat refine evF ?_
   refine aops_end (hK _ ?_)
   clear hK K
   show ∃ x, _ ∧ Weak _ _
   refine ⟨⟨N1, N2, p3, s3⟩, ?_, ((weak_frz _ 7).trans (weak_keep _ [0, 2, 3, 4, 5, 6, 7, 57])).trans (Weak.of_eq (by simp only [bunK, C.at, C.put, List.dropLast, List.isPrefixOf, Nat.reduceMul, Nat.reduceLT, Nat.reduceLeDiff, Nat.reduceBEq, Nat.reduceEqDiff, reduceCtorEq, Nat.reduceAdd, ↓reduceIte , netO] <;> exact rfl))⟩
   exact ⟨ht1, ht2, by dsimp only; omega⟩
  ·refine dw_seq (dwR fun K hK => ?_)
   repeat refine evF ?_
   refine aops_end (hK _ (dwK [0, 2, 3, 4, 5, 6, 7, 12, 17, 57] ?_))
   clear hK K
   refine dwI (fun hb => ?_) (fun hb => ?_)
   ·refine dw_seq (dwR fun K hK => ?_)
    repeat refine evF ?_
    refine clF rfl ⟨rfl, _, rfl⟩ (by omega) (by first | exact may50) (neGood_d NFz N1) ?_
    rintro _ rfl
    repeat refine evF ?_
    obtain h | h := Bool.eq_false_or_eq_true (goodB N1)
    ·have dfx := And.intro dfx (@h)
     repeat refine evF ?_
     have dfk := @h
     refine aops_end (hK _ (dwKF [0, 2, 3, 4, 5, 6, 7, 26, 57] ?_))
     clear hK K
     obtain ⟨g1, g2, g3, g4, g5⟩ := goodB_iff.1 h
     have hrg : ∀ v i, v < N1.ends.length → i < (gl N1.ends v).length → -1000 ≤ (gp (gl N1.ends v) i).1 ∧ (gp (gl N1.ends v) i).1 ≤ 1000 := fun v i hv hi => by
      have hq := inB_iff.1 ((g5 v hv).2 i hi).1
      have hl := ht1.len
      omega
     refine dwI (fun hb => ?_) (fun hb => ?_)
     ·refine dwR fun K hK => ?_
      repeat refine evF ?_
      refine clF rfl ⟨rfl, _, rfl⟩ (by omega) (by first | exact may52) (buDouble_d NFz N1 (by have := ht1.len; omega) g3 (fun v _ => by have := ht1.deg v; unfold dg at this; omega) hrg) ?_
      rintro _ rfl
      repeat refine evF ?_
      refine aops_end (hK _ ?_)
      clear hK K
      show ∃ x, _ ∧ Weak _ _
      refine ⟨⟨N1, dblN N1 N1.ends.length, p2, s2⟩, ?_, ((weak_frz _ 7).trans (weak_keep _ [0, 2, 3, 4, 5, 6, 7, 57])).trans (Weak.of_eq (by simp only [bunK, C.at, C.put, List.dropLast, List.isPrefixOf, Nat.reduceMul, Nat.reduceLT, Nat.reduceLeDiff, Nat.reduceBEq, Nat.reduceEqDiff, reduceCtorEq, Nat.reduceAdd, ↓reduceIte , netO] <;> exact rfl))⟩
      exact ⟨ht1, tame_dbl ht1 (by have := of_decide_eq_true hb; omega), by dsimp only; omega⟩
     ·refine dw_skip ?_
      show ∃ x, _ ∧ Weak _ _
      refine ⟨⟨N1, N1, p2, s2⟩, ?_, (weak_keep _ [0, 2, 3, 4, 5, 6, 7, 57]).trans (Weak.of_eq (by simp only [bunK, C.at, C.put, List.dropLast, List.isPrefixOf, Nat.reduceMul, Nat.reduceLT, Nat.reduceLeDiff, Nat.reduceBEq, Nat.reduceEqDiff, reduceCtorEq, Nat.reduceAdd, ↓reduceIte] <;> exact rfl))⟩
      exact ⟨ht1, ht1, by dsimp only; omega⟩
    ·have dfx := And.intro dfx (@h)
     repeat refine evF ?_
     have dfk := @h
     refine aops_end (hK _ (dwKF [0, 2, 3, 4, 5, 6, 7, 26, 57] ?_))
     clear hK K
     refine dwI (fun hb => ?_) (fun hb => ?_)
     ·cases hb
     ·refine dw_skip ?_
      show ∃ x, _ ∧ Weak _ _
      refine ⟨⟨N1, N1, p2, s2⟩, ?_, (weak_keep _ [0, 2, 3, 4, 5, 6, 7, 57]).trans (Weak.of_eq (by simp only [bunK, C.at, C.put, List.dropLast, List.isPrefixOf, Nat.reduceMul, Nat.reduceLT, Nat.reduceLeDiff, Nat.reduceBEq, Nat.reduceEqDiff, reduceCtorEq, Nat.reduceAdd, ↓reduceIte] <;> exact rfl))⟩
      exact ⟨ht1, ht1, by dsimp only; omega⟩
   ·refine dw_seq (dwR fun K hK => ?_)
    repeat refine evF ?_
    refine aops_end (hK _ (dwK [0, 2, 3, 4, 5, 6, 7, 29, 57] ?_))
    clear hK K
    refine dwI (fun hb => ?_) (fun hb => ?_)
    ·refine dwR fun K hK => ?_
     repeat refine evF ?_
     refine cisF rfl ⟨rfl, _, rfl⟩ (by omega) (by first | exact may24) (pick_c bs p2 s2 6 _ hby hp2 (by omega)) ?_
     rintro _ ⟨p3, s3, _, rfl, hp3, x3, rfl, hx3⟩
     refine ioF ?_
     repeat refine evF ?_
     obtain ⟨k, rfl⟩ := Int.eq_ofNat_of_zero_le hx3.1
     have hk : (1 + (k : Int)) = ((1 + k : Nat) : Int) := by omega
     have hk6 : k ≤ 5 := by have := hx3.2.2; omega
     have dfx := And.intro dfx (@hk)
     repeat refine evF ?_
     refine clF rfl ⟨rfl, _, rfl⟩ (by omega) (by first | exact may53) (buCycle_d (1 + k) (by omega) (by omega)) ?_
     rintro _ rfl
     repeat refine evF ?_
     refine ciaF rfl ⟨rfl, _, rfl⟩ (by omega) (by first | exact may54) (ring_c bs p3 s3 7 _ _ rfl hby hp3 (by omega) (by omega) (by omega)) ?_
     rintro _ ⟨p4, s4, _, rfl, hp4, N2, rfl, ht2⟩
     refine ioF ?_
     repeat refine evF ?_
     refine aops_end (hK _ ?_)
     clear hK K
     show ∃ x, _ ∧ Weak _ _
     refine ⟨⟨cycN (1 + k) (1 + k), N2, p4, s4⟩, ?_, ((weak_frz _ 6).trans ((weak_frz _ 7).trans (weak_keep _ [0, 2, 3, 4, 5, 6, 7, 57]))).trans (Weak.of_eq (by simp only [bunK, C.at, C.put, List.dropLast, List.isPrefixOf, Nat.reduceMul, Nat.reduceLT, Nat.reduceLeDiff, Nat.reduceBEq, Nat.reduceEqDiff, reduceCtorEq, Nat.reduceAdd, ↓reduceIte , netO] <;> exact rfl))⟩
     exact ⟨tame_cyc (by omega), ht2.tame (by omega) (by omega), by dsimp only; omega⟩
    ·refine dw_skip ?_
     show ∃ x, _ ∧ Weak _ _
     refine ⟨⟨N1, N1, p2, s2⟩, ?_, (weak_keep _ [0, 2, 3, 4, 5, 6, 7, 57]).trans (Weak.of_eq (by simp only [bunK, C.at, C.put, List.dropLast, List.isPrefixOf, Nat.reduceMul, Nat.reduceLT, Nat.reduceLeDiff, Nat.reduceBEq, Nat.reduceEqDiff, reduceCtorEq, Nat.reduceAdd, ↓reduceIte] <;> exact rfl))⟩
     exact ⟨ht1, ht1, by dsimp only; omega⟩
 ·rintro ⟨M1, M2, p4, s4⟩ ⟨hm1, hm2, hp4⟩
  dsimp only at hm1 hm2 hp4 ⊢
  have dfx := And.intro dfx (@twoNodesSt11.eq_def)
  refine dw_seq (dwRD twoNodesSt11 (fun j r => match j with | 5 => CurO bs (B + 1200000000000000000 + 2) (fun rs => ∃ x, rs = [.c (.p (.int .i64 x))] ∧ pickP (M1.ends.length : Int) x) r | 7 => CurO bs (B + 1200000000000000000 + 2 + 2) (fun rs => ∃ x, rs = [.c (.p (.int .i64 x))] ∧ pickP 20 x) r | 15 => CurO bs (B + 1200000000000000000 + 2 + 2 + 2) (fun rs => ∃ x, rs = [.c (.p (.int .i64 x))] ∧ pickP (M2.ends.length : Int) x) r | 17 => CurO bs (B + 1200000000000000000 + 2 + 2 + 2 + 2) (fun rs => ∃ x, rs = [.c (.p (.int .i64 x))] ∧ pickP 20 x) r | _ => True) fun K hK => ?_)
  repeat refine dvF ?_
  have dfx := And.intro dfx (@twoNodesSt11.eq_def)
  refine disF rfl ⟨rfl, _, rfl⟩ (by omega) (by first | exact may24) (pick_c bs p4 s4 M1.ends.length (B + 1200000000000000000) hby (by omega) (by omega)) (CurO.ex ⟨_, 0, rfl, pick0 _⟩) ?_
  rintro _ ⟨q0, u0, _, rfl, hq0, y0, rfl, hy0⟩
  refine dioF ?_
  repeat refine dvF ?_
  have dfx := And.intro dfx (@twoNodesSt11.eq_def)
  refine disF rfl ⟨rfl, _, rfl⟩ (by omega) (by first | exact may24) (pick_c bs q0 u0 20 (B + 1200000000000000000 + 2) hby (by omega) (by omega)) (CurO.ex ⟨_, 0, rfl, pick0 _⟩) ?_
  rintro _ ⟨q1, u1, _, rfl, hq1, y1, rfl, hy1⟩
  refine dioF ?_
  repeat refine dvF ?_
  have dfx := And.intro dfx (@twoNodesSt11.eq_def)
  refine disF rfl ⟨rfl, _, rfl⟩ (by omega) (by first | exact may24) (pick_c bs q1 u1 M2.ends.length (B + 1200000000000000000 + 2 + 2) hby (by omega) (by omega)) (CurO.ex ⟨_, 0, rfl, pick0 _⟩) ?_
  rintro _ ⟨q2, u2, _, rfl, hq2, y2, rfl, hy2⟩
  refine dioF ?_
  repeat refine dvF ?_
  have dfx := And.intro dfx (@twoNodesSt11.eq_def)
  refine disF rfl ⟨rfl, _, rfl⟩ (by omega) (by first | exact may24) (pick_c bs q2 u2 20 (B + 1200000000000000000 + 2 + 2 + 2) hby (by omega) (by omega)) (CurO.ex ⟨_, 0, rfl, pick0 _⟩) ?_
  rintro _ ⟨q3, u3, _, rfl, hq3, y3, rfl, hy3⟩
  refine dioF ?_
  repeat refine dvF ?_
  refine dops_end (hK _ (dwK [2, 3, 4, 5, 57] ?_))
  clear hK K
  exact dw_ret (fin_retIO Try.results34 Try.ntmps34 (.four (.cell 2 _ _ _ _ rfl rfl tab27 rfl rfl rfl) (.re _ _ (.plain _ _ rfl)) (.cell 4 _ _ _ _ rfl rfl tab27 rfl rfl rfl) (.re _ _ (.plain _ _ rfl))) (by decide) (by decide) rfl rfl rfl ⟨q3, u3, _, rfl, by omega, M1, M2, _, _, rfl, hm1, hm2⟩)
end
section
open Go Go.RowKit
theorem amongP_le {xs : List Int} {x lo : Int} (h : amongP xs x) (ha : (xs.all fun y => decide (lo ≤ y)) = true) : lo ≤ x := by
 obtain ⟨j, hj, rfl⟩ := h
 rw [gi_lt hj]
 exact of_decide_eq_true (List.all_eq_true.1 ha _ (List.getElem_mem hj))
theorem amongP_le2 {xs : List Int} {x hi : Int} (h : amongP xs x) (ha : (xs.all fun y => decide (y ≤ hi)) = true) : x ≤ hi := by
 obtain ⟨j, hj, rfl⟩ := h
 rw [gi_lt hj]
 exact of_decide_eq_true (List.all_eq_true.1 ha _ (List.getElem_mem hj))
theorem dfxDsp : type_of% (And.intro tab27 (And.intro @netO.eq_1 (And.intro @netZ.eq_1 (And.intro @rowi (And.intro tab24 (And.intro tab38 (And.intro tab54 (And.intro tab25 (And.intro tab3 (And.intro tab22 (And.intro tab52 @trivial))))))))))) := And.intro tab27 (And.intro @netO.eq_1 (And.intro @netZ.eq_1 (And.intro @rowi (And.intro tab24 (And.intro tab38 (And.intro tab54 (And.intro tab25 (And.intro tab3 (And.intro tab22 (And.intro tab52 @trivial))))))))))
set_option maxRecDepth 8000 in
set_option maxHeartbeats 0 in
theorem depth_c (bs : List Int) (p : Nat) (s : Int) (B : Nat) (hby : BytesOk bs) (hp : p ≤ B) (hB : B ≤ 4611686018427387900) : ACalls Try.prog 25 [.io 54 (curC bs p s)] (CurO bs (B + 2) fun rs => ∃ x, rs = [.c (.p (.int .i64 x))] ∧ -1 ≤ x ∧ x ≤ 81) := by
 refine iocalls_of Try.func25 rfl (by rw [Try.ntmps25]; simp) fun w0 => ?_
 rw [Try.ntmps25]
 have dfx := dfxDsp
 simp only [initIO, argsL, Arg.av, curC]
 refine dw_seq (dwR fun K hK => ?_)
 repeat refine evF ?_
 refine aops_end (hK _ (dwK [0, 6] ?_))
 clear hK K
 refine dw_seq (dwR fun K hK => ?_)
 repeat refine evF ?_
 refine aops_ev rfl (gX_consts [0, 1, 1, 2, 2, 3, 4, 6, 80, 81, -1] rfl rfl rfl rfl tab25 rfl tab3 rfl rfl (by simp) (by simp) (by omega)) ?_
 refine cisF rfl ⟨rfl, _, rfl⟩ (by omega) (by first | exact may46) (among_c bs p s _ _ [0, 1, 1, 2, 2, 3, 4, 6, 80, 81, -1] B hby hp (by omega) (by simp) (by simp)) ?_
 rintro _ ⟨p1, s1, _, rfl, hp1, x, rfl, hx⟩
 refine ioF ?_
 repeat refine evF ?_
 refine aops_end (hK _ (dwK [2, 6] ?_))
 clear hK K
 exact dw_ret (fin_retIO Try.results25 Try.ntmps25 (.one (.re _ _ (.plain _ _ rfl))) (by decide) (by decide) rfl rfl rfl ⟨p1, s1, _, rfl, by omega, x, rfl, amongP_le hx (by decide), amongP_le2 hx (by decide)⟩)
set_option maxRecDepth 8000 in
set_option maxHeartbeats 0 in
theorem DrawAreTwins_c (bs : List Int) (hby : BytesOk bs) : ACalls Try.prog 13 [.c (codeC bs)] TwoP := by
 refine acalls_of (by simp [Arg.isIo]) Try.func13 rfl (by rw [Try.ntmps13]; simp) fun w0 => ?_
 rw [Try.ntmps13]
 have dfx := dfxDsp
 simp only [initE, argsL, Arg.av, codeC]
 refine dw_seq (dwR fun K hK => ?_)
 repeat refine evF ?_
 refine aops_end (hK _ (dwK [0, 2, 3, 4, 5] ?_))
 clear hK K
 refine dw_seq (dwR fun K hK => ?_)
 repeat refine evF ?_
 refine aops_end (hK _ (dwK [2, 3, 4, 5, 6, 9] ?_))
 clear hK K
 refine dw_seq (dwR fun K hK => ?_)
 repeat refine evF ?_
 refine ciaF rfl ⟨rfl, _, rfl⟩ (by omega) (by first | exact may34) (twoNodes_c bs 0 0 0 hby (by omega) (by omega)) ?_
 rintro _ ⟨p1, s1, _, rfl, hp1, N1, N2, x, y, rfl, ht1, ht2⟩
 refine ioF ?_
 repeat refine evF ?_
 refine aops_end (hK _ (dwK [2, 3, 4, 5] ?_))
 clear hK K
 exact dw_ret (fin_retA Try.results13 (.four (.cell 2 _ _ _ _ rfl rfl tab27 rfl rfl rfl) (.re _ _ (.plain _ _ rfl)) (.cell 4 _ _ _ _ rfl rfl tab27 rfl rfl rfl) (.re _ _ (.plain _ _ rfl))) (by decide) ⟨N1, N2, _, _, rfl, ht1, ht2⟩)
set_option maxRecDepth 8000 in
set_option maxHeartbeats 0 in
theorem DrawSeparatingDepth_c (bs : List Int) (hby : BytesOk bs) : ACalls Try.prog 5 [.c (codeC bs)] TwoP := by
 refine acalls_of (by simp [Arg.isIo]) Try.func5 rfl (by rw [Try.ntmps5]; simp) fun w0 => ?_
 rw [Try.ntmps5]
 have dfx := dfxDsp
 simp only [initE, argsL, Arg.av, codeC]
 refine dw_seq (dwR fun K hK => ?_)
 repeat refine evF ?_
 refine aops_end (hK _ (dwK [0, 2, 3, 4, 5] ?_))
 clear hK K
 refine dw_seq (dwR fun K hK => ?_)
 repeat refine evF ?_
 refine caF rfl ⟨rfl, _, rfl⟩ (by omega) (by first | exact may13) (DrawAreTwins_c bs hby) ?_
 rintro _ ⟨N1, N2, x, y, rfl, ht1, ht2⟩
 repeat refine evF ?_
 refine aops_end (hK _ (dwK [2, 3, 4, 5] ?_))
 clear hK K
 exact dw_ret (fin_retA Try.results5 (.four (.cell 2 _ _ _ _ rfl rfl tab27 rfl rfl rfl) (.re _ _ (.plain _ _ rfl)) (.cell 4 _ _ _ _ rfl rfl tab27 rfl rfl rfl) (.re _ _ (.plain _ _ rfl))) (by decide) ⟨N1, N2, _, _, rfl, ht1, ht2⟩)
def VszP (rs : List RV) : Prop := ∃ N x y, rs = [.agg (netZ N), .c (.p (.int .i64 x)), .c (.p (.int .i64 y))] ∧ Tame N ∧ -1 ≤ y ∧ y ≤ 81
def DrawViewSizeSt3 : Nat → Stat
 | 0 => ⟨[6], [(6, 1)], [], [12], [], []⟩
 | 1 => ⟨[5], [], [], [13], [], []⟩
 | 2 => ⟨[6], [(6, 1)], [], [14], [], []⟩
 | 3 => ⟨[14], [(6, 1)], [], [15], [], []⟩
 | 4 => ⟨[15], [], [], [16], [], []⟩
 | 5 => ⟨[13, 16], [], [9], [17], [(9, 1)], []⟩
 | 6 => ⟨[5], [], [], [18], [], []⟩
 | 7 => ⟨[18], [], [9], [19], [(9, 1)], []⟩
 | 8 => ⟨[19], [], [], [20], [], []⟩
 | 9 => ⟨[17, 20], [], [], [21], [], []⟩
 | 10 => ⟨[5], [], [], [22], [], []⟩
 | 11 => ⟨[22], [], [9], [23], [(9, 1)], []⟩
 | 12 => ⟨[2, 12], [(2, 1)], [], [], [(2, 1)], []⟩
 | 13 => ⟨[21], [], [], [3], [], []⟩
 | 14 => ⟨[23], [], [], [4], [], []⟩
 | _ => ⟨[], [], [], [], [], []⟩
set_option maxRecDepth 8000 in
set_option maxHeartbeats 0 in
theorem DrawViewSize_c (bs : List Int) (hby : BytesOk bs) : ACalls Try.prog 10 [.c (codeC bs)] VszP := by -- params []uint8
 refine acalls_of (by simp [Arg.isIo]) Try.func10 rfl (by rw [Try.ntmps10]; simp) fun w0 => ?_
 rw [Try.ntmps10]
 have dfx := dfxDsp
 simp only [initE, argsL, Arg.av, codeC]
 refine dw_seq (dwR fun K hK => ?_)
 repeat refine evF ?_
 refine aops_end (hK _ (dwK [0, 2] ?_))
 clear hK K
 refine dw_seq (dwR fun K hK => ?_)
 repeat refine evF ?_
 refine aops_end (hK _ (dwK [2, 5, 9] ?_))
 clear hK K
 refine dw_seq (dwR fun K hK => ?_)
 repeat refine evF ?_
 refine ciaF rfl ⟨rfl, _, rfl⟩ (by omega) (by first | exact may23) (anyNet_c bs 0 0 8 _ _ rfl hby (Nat.zero_le 0) (by omega) (by omega) (by omega)) ?_
 rintro _ ⟨p1, s1, _, rfl, hp1, N1, rfl, ht1⟩
 refine ioF ?_
 repeat refine evF ?_
 have dfk := @netO.eq_1
 refine aops_end (hK _ (dwKF [2, 5, 6, 9] ?_))
 clear hK K
 refine dw_frz 6 [2, 5, 6, 9] (by simp only [bunK, C.at, C.put, List.dropLast, List.isPrefixOf, Nat.reduceMul, Nat.reduceLT, Nat.reduceLeDiff, Nat.reduceBEq, Nat.reduceEqDiff, reduceCtorEq, Nat.reduceAdd, ↓reduceIte]; exact rfl) ?_
 have dfx := And.intro dfx (@DrawViewSizeSt3.eq_def)
 refine dw_seq (dwRD DrawViewSizeSt3 (fun j r => match j with | 5 => CurO bs (576460752340000000 + 2) (fun rs => ∃ x, rs = [.c (.p (.int .i64 x))] ∧ pickP (N1.ends.length : Int) x) r | 7 => CurO bs (576460752340000000 + 2 + 2) (fun rs => ∃ x, rs = [.c (.p (.int .i64 x))] ∧ pickP 20 x) r | 11 => CurO bs (576460752340000000 + 4 + 2) (fun rs => ∃ x, rs = [.c (.p (.int .i64 x))] ∧ -1 ≤ x ∧ x ≤ 81) r | _ => True) fun K hK => ?_)
 repeat refine dvF ?_
 have dfx := And.intro dfx (@DrawViewSizeSt3.eq_def)
 refine disF rfl ⟨rfl, _, rfl⟩ (by omega) (by first | exact may24 | exact may25) (pick_c bs p1 s1 (N1.ends.length : Int) (576460752340000000) hby (by omega) (by omega)) (CurO.ex ⟨_, 0, rfl, pick0 _⟩) ?_
 rintro _ ⟨p2, s2, _, rfl, hp2, x2, rfl, hx2⟩
 refine dioF ?_
 repeat refine dvF ?_
 have dfx := And.intro dfx (@DrawViewSizeSt3.eq_def)
 refine disF rfl ⟨rfl, _, rfl⟩ (by omega) (by first | exact may24 | exact may25) (pick_c bs p2 s2 20 (576460752340000000 + 2) hby (by omega) (by omega)) (CurO.ex ⟨_, 0, rfl, pick0 _⟩) ?_
 rintro _ ⟨p3, s3, _, rfl, hp3, x3, rfl, hx3⟩
 refine dioF ?_
 repeat refine dvF ?_
 have dfx := And.intro dfx (@DrawViewSizeSt3.eq_def)
 refine diaF rfl ⟨rfl, _, rfl⟩ (by omega) (by first | exact may24 | exact may25) (depth_c bs p3 s3 (576460752340000000 + 4) hby (by omega) (by omega)) (CurO.ex ⟨_, 0, rfl, by omega, by omega⟩) ?_
 rintro _ ⟨p4, s4, _, rfl, hp4, x4, rfl, hx4⟩
 refine dioF ?_
 repeat refine dvF ?_
 refine dops_end (hK _ (dwK [2, 3, 4, 9] ?_))
 clear hK K
 exact dw_ret (fin_retA Try.results10 (.three (.cell 2 _ _ _ _ rfl rfl tab27 rfl rfl rfl) (.re _ _ (.plain _ _ rfl)) (.re _ _ (.plain _ _ rfl))) (by decide) ⟨N1, _, x4, rfl, ht1, hx4.1, hx4.2⟩)
end
end Go.Proofs.Ytlaahgdikiiahaa
