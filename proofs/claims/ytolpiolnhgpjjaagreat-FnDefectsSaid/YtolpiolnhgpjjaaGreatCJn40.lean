/- Parts of the proof. -/
import Derived.Test.YtolpiolnhgpjjaaGreatCJn39
import Derived.Test.YtolpiolnhgpjjaaGreatCJn36
import Derived.Test.YtolpiolnhgpjjaaGreatCLwb
import Derived.Test.YtolpiolnhgpjjaaGreatCJn22
import Derived.Test.YtolpiolnhgpjjaaGreatCJn24
import Derived.Test.YtolpiolnhgpjjaaGreatCJn27
import Derived.Test.YtolpiolnhgpjjaaGreatCDt
import Derived.Test.YtolpiolnhgpjjaaGreatCJn9
import Derived.Test.YtolpiolnhgpjjaaGreatCDcu
import Derived.Test.YtolpiolnhgpjjaaGreatCJn17
import Derived.Test.YtolpiolnhgpjjaaGreatCJn7
import Derived.Test.YtolpiolnhgpjjaaGreatCNw1
import Derived.Test.YtolpiolnhgpjjaaGreatCNw3
import Derived.Test.YtolpiolnhgpjjaaGreatCPwp
import Derived.Test.YtolpiolnhgpjjaaGreatCJn28
import Derived.Test.YtolpiolnhgpjjaaGreatCDcv
import Derived.Test.YtolpiolnhgpjjaaGreatCJn19
import Derived.Test.YtolpiolnhgpjjaaGreatCShelf
import Derived.Test.YtolpiolnhgpjjaaGreatCSp2
import Derived.Test.YtolpiolnhgpjjaaGreatCDpg
import Derived.Test.YtolpiolnhgpjjaaGreatCIm4
import Derived.Test.YtolpiolnhgpjjaaGreatCJn26
import Derived.Laws.IdiomCopy
import Derived.Laws.Slices
import Derived.StillTailTactics
import Derived.Deep.DeepCutAuto
import Derived.RegionTactic
import Derived.ChangeAlike
import Derived.Lib.BitFns
set_option linter.unusedSimpArgs false
set_option linter.unusedVariables false
namespace Go.Proofs.YtolpiolnhgpjjaaGreat
section
open Go Go.RowKit
section
variable {N : Net}
theorem Jj (hs : Sym N.ends) (hp : plB N = true) (k S : Nat) : ct (fun j => decide (gi (dfs N k S) (gq (edL N N.ends.length) j).1.toNat = gi (dfs N k S) (gq (edL N N.ends.length) j).2.2.1.toNat)) (edL N N.ends.length).length = inS N k S := by
 have hl : ∀ a i, a < N.ends.length → i < (gl N.ends a).length → (gp (gl N.ends a) i).1 ≠ a := fun a i ha hi he => by
  have h2 := nl.1 hp a ha;rw [iy.2 ⟨i, hi, he⟩] at h2; cases h2
 exact Ae hs hl fun w => gi (dfs N k S) w
theorem Ow {l : List Int} {k : Nat} (hk : 0 < k) (h : ∀ v, v < l.length → gi l v < k) : mx0 l < k := by
 rcases Ho l with h2 | h2
 ·rw [h2]; omega
 ·obtain ⟨j, hj, he⟩ := List.mem_iff_getElem.1 h2;have := h j hj;unfold gi at this;rw [List.getD_eq_getElem?_getD, List.getElem?_eq_getElem hj] at this;rw [← he]; exact this
theorem Js {k S : Nat} (hcr : crw N k (dfs N k S) = -1) {M : Nat} (hM : mx0 (dgL N N.ends.length) = M) : sw N (dfs N k S) ((M / k : Nat) : Int) = true := by
 refine Pj hcr fun v hv => ?_
 have h1 : ((gl N.ends v).length : Int) ∈ dgL N N.ends.length := by
  unfold dgL;exact List.mem_map.2 ⟨v, List.mem_range.2 hv, rfl⟩
 have h2 := Q6 h1;rw [hM] at h2;have h3 : (gl N.ends v).length / k ≤ M / k := Nat.div_le_div_right (by omega);omega
theorem M0 {k S : Nat} (hg : bn N = true) (hk : 0 < k) (hk2 : k ≤ 10) : eh N (dfs N k S) = true := by
 unfold eh;rw [hg, fm, beq_self_eq_true, Bool.true_and, Bool.true_and];show (dfs N k S).all (fun n => inB n 0 1000000000000) = true;rw [List.all_eq_true];intro x hx;obtain ⟨j, hj, rfl⟩ := List.mem_iff_getElem.1 hx;have h1 := B6 (N := N) hk S j (by rw [fm] at hj; exact hj);unfold gi at h1;rw [List.getD_eq_getElem?_getD, List.getElem?_eq_getElem hj] at h1;rw [db];have h2 : (some ((dfs N k S)[j])).getD 0 = (dfs N k S)[j] := rfl;rw [h2] at h1;omega
end
end
section
open Go Go.RowKit
def fnDefectsSt11 : Nat → Stat
 | 0 => ⟨[5], [(5, 1)], [5], [85], [], []⟩
 | 1 => ⟨[7], [], [], [86], [], []⟩
 | 2 => ⟨[13], [], [], [87], [], []⟩
 | 3 => ⟨[87], [], [13], [88], [], []⟩
 | 4 => ⟨[6], [], [], [89], [], []⟩
 | 5 => ⟨[88, 89], [], [], [90], [], []⟩
 | 6 => ⟨[85, 86, 90], [], [7], [91], [], []⟩
 | 7 => ⟨[91], [], [], [84], [], [(91, 1), (91, 2)]⟩
 | 8 => ⟨[84], [], [], [92], [], [(84, 1)]⟩
 | 9 => ⟨[84], [], [], [93], [], [(84, 2)]⟩
 | 10 => ⟨[92], [], [], [17], [], []⟩
 | 11 => ⟨[93], [], [], [18], [], []⟩
 | _ => ⟨[], [], [], [], [], []⟩
def fnDefectsSt18 : Nat → Stat
 | 0 => ⟨[7], [], [], [126], [], []⟩
 | 1 => ⟨[21], [], [], [127], [], []⟩
 | 2 => ⟨[127], [], [], [128], [], []⟩
 | 3 => ⟨[128], [], [], [129], [], []⟩
 | 4 => ⟨[126, 129], [(7, 1)], [], [130], [], []⟩
 | 5 => ⟨[130], [(7, 2)], [], [131], [], []⟩
 | 6 => ⟨[7], [], [], [132], [], []⟩
 | 7 => ⟨[21], [], [], [133], [], []⟩
 | 8 => ⟨[133], [], [], [134], [], []⟩
 | 9 => ⟨[134], [], [], [135], [], []⟩
 | 10 => ⟨[132, 135], [(7, 1)], [], [136], [], []⟩
 | 11 => ⟨[136], [(7, 2)], [], [137], [], []⟩
 | 12 => ⟨[131, 137], [], [], [138], [], []⟩
 | _ => ⟨[], [], [], [], [], []⟩
def zBLaDefects1 := PLift.up (And.intro aq (And.intro @cl (And.intro P6 (And.intro bp (And.intro @if_pos.{1} (And.intro cr (And.intro @netZ.eq_1 (And.intro @netO.eq_1 (And.intro T3 (And.intro @bne_self_eq_false.{0} (And.intro @beq_self_eq_true.{0} (And.intro @Bool.not_true (And.intro @Bool.not_false (And.intro @Bool.true_beq (And.intro @Bool.false_beq (And.intro @bw (And.intro @Tg (And.intro @Rn (And.intro @ca @trivial)))))))))))))))))))
theorem B4 : type_of% zBLaDefects1.down := zBLaDefects1.down
set_option maxRecDepth 8000 in
set_option maxHeartbeats 0 in
theorem El (a b : List Int) (hA : im a) (hB : im b) : cg Tryz.prog 5 [.c (e8 a), .c (e8 b)] (fun r => r = [.c (.p (.bool true))]) := by
 refine ny (by simp [Arg.isIo]) Tryz.func5 rfl (by rw [Tryz.ntmps5]; simp) fun w0 => ?_;rw [Tryz.ntmps5];have dX := B4;simp only [bq, bb, Arg.av, e8];refine ab (dR fun K hK => ?_);(repeat refine eV ?_);refine aa (hK _ (wK [0, 1] ?_));clear hK K;refine ab ?_;refine ab (dR fun K hK => ?_);(repeat refine eV ?_);refine cL rfl ⟨rfl, _, rfl⟩ (by omega) (by first | exact Ul) (T4 a b hA) ?_;rintro _ rfl;(repeat refine eV ?_);refine aa (hK _ (wK [0, 1, 39] ?_));clear hK K;refine dI ?_ ?_<;>intro hb
 ·refine ab (dR fun K hK => ?_);(repeat refine eV ?_);refine aa (hK _ (wK [4] ?_));clear hK K;exact aj (mq Tryz.results5 (.one (.re _ _ (.plain _ _ rfl))) (by decide) rfl)
 ·obtain ⟨hby, hby2⟩ := Po hb hA hB;refine af ?_;show DW _ _ _ _ _;refine ab (dR fun K hK => ?_);(repeat refine eV ?_);refine caF rfl ⟨rfl, _, rfl⟩ (by omega) (by first | exact Tu) (j7 a hby) ?_;rintro _ ⟨N, k, rfl, htm, hkA⟩;(repeat refine eV ?_);refine aa (hK _ (wK [0, 1, 5, 6] ?_));clear hK K;obtain ⟨L, S, ok, hI, hS, hLl, hok⟩ := D5 N htm k;have hLs := E0 L;refine ab (dR fun K hK => ?_);(repeat refine eV ?_);refine cL rfl ⟨rfl, _, rfl⟩ (by omega) (by first | exact Tt) (hI) ?_;rintro _ rfl;(repeat refine eV ?_);refine aa (hK _ (wK [0, 1, 5, 6, 7, 8, 9] ?_));clear hK K;refine ab (dR fun K hK => ?_);(repeat refine eV ?_);refine cL rfl ⟨rfl, _, rfl⟩ (by omega) (by first | exact Qe) (hS) ?_;rintro _ rfl;(repeat refine eV ?_);refine aa (hK _ (wK [0, 1, 5, 6, 7, 8, 9, 10, 11, 12] ?_));clear hK K;refine ab ?_;refine ab (dR fun K hK => ?_);(repeat refine eV ?_);refine cgF rfl rfl ⟨rfl, _, rfl⟩ (by omega) (by first | exact Tv) (E2 true 3 L true 3 L (by omega) (by omega)) ?_;rintro _ rfl;(repeat refine eV ?_);have dX := And.intro dX (@hLs);(repeat refine eV ?_);have dK := @hLs;refine aa (hK _ (a7 [0, 1, 5, 6, 7, 8, 9, 72] ?_));clear hK K;refine dI ?_ ?_<;>intro hb
  ·cases hb
  ·refine af ?_;show DW _ _ _ _ _;refine fl (X := Unit) (fun x => True) (fun x => mkE 220 [(0, .c (.sl false 5 1 (a.map bC))), (1, .c (.sl false 5 1 (b.map bC)))] []) ?_ ?_
   ·refine ab (dR fun K hK => ?_);(repeat refine eV ?_);refine aa (hK _ (wK [0, 1, 5, 6, 7, 8, 73] ?_));clear hK K
    cases ok with
    | false =>
     refine dI ?_ ?_<;>intro hb
     ·cases hb
     ·refine af ?_;show ∃ x, _ ∧ Weak _ _;refine ⟨(), ?_, (aw _ [0, 1]).trans (Weak.of_eq (by simp only [ac, pZ, simprocAttr] <;> exact rfl))⟩;trivial
    | true =>
     obtain ⟨m, rfl, hm1, hm2, hg, hp, rfl, hcr, hin⟩ := hok rfl;obtain ⟨hs, hn, hids, hdg⟩ := b0 hg;have hLn := fm N m S;have hli := htm.ids;have hln := htm.len;have hEb := so N hg;obtain ⟨M, hM⟩ := Int.eq_ofNat_of_zero_le (Ov (dgL N N.ends.length));have hk0 : ((m : Int) = 0) ↔ False := ⟨fun h => by omega, fun h => h.elim⟩;have htd : Int.tdiv (M : Int) (m : Int) = ((M / m : Nat) : Int) := rfl;have hdl : M / m ≤ M := Nat.div_le_self _ _
     have hMb : M ≤ 1000000 := by
      rcases Ho (dgL N N.ends.length) with h | h
      ·omega
      ·obtain ⟨v, hv, he⟩ := List.mem_map.1 (show mx0 (dgL N N.ends.length) ∈ (List.range N.ends.length).map fun v => ((gl N.ends v).length : Int) from h);have := hdg v;omega
     have hdk := Js hcr hM;obtain ⟨q, hq⟩ : ∃ q, q = M / m := ⟨_, rfl⟩;rw [← hq] at htd hdl hdk
     have hQ1 : DCalls Tryz.prog 39 [.c (.sl true 3 1 ((dgL N N.ends.length).map iC))] (fun r => r = [.c (.p (.int .i64 M))]) := by
      have := Hf true 3 (dgL N N.ends.length) (by rw [H6]; omega);rwa [hM] at this
     have hID : DCalls Tryz.prog 38 [.agg (bj NFz N), .c (.sl true 3 1 ((dfs N m S).map iC)), .c (.p (.int .i64 (q : Int)))] (fun r => r = [.c (.p (.bool true)), .c (.p (.bool true))]) := by
      have := nc NFz N true 3 (dfs N m S) (q : Int) (by omega) (by omega) (by omega);rwa [M0 hg (by omega) hm2, hdk, decide_eq_true (show (0 : Int) ≤ (q : Int) by omega)] at this
     have hlow : mx0 (dfs N m S) < m := Ow (by omega) fun v hv => (B6 (by omega) S v (by omega)).2;have hq1 : decide (mx0 (dfs N m S) ≥ (m : Int)) = false := decide_eq_false (by omega);have hict := Jj hs hp m S;obtain ⟨E, hE⟩ : ∃ E, E = (edL N N.ends.length).map qL := ⟨_, rfl⟩;have hEl : E.length = (edL N N.ends.length).length := by rw [hE, List.length_map]
     have hq2 : decide ((S : Int) > (E.length : Int)) = false := decide_eq_false (by omega);have hEO := J4 NFz N hg;rw [← hE] at hEO
     have hrow : ∀ j, j < E.length → ∃ v w : Nat, gi (lg E j) 0 = v ∧ gi (lg E j) 2 = w ∧ (lg E j).length = 4 ∧ v < N.ends.length ∧ w < N.ends.length ∧ (gq (edL N N.ends.length) j).1.toNat = v ∧ (gq (edL N N.ends.length) j).2.2.1.toNat = w := fun j hj => by
      have hj2 : j < (edL N N.ends.length).length := by omega
      obtain ⟨k2, i, hk, hi, -, hq⟩ := qv (List.getElem_mem hj2);rw [← qu hj2] at hq;obtain ⟨w, j3, he, hw, -, -⟩ := hs k2 i hk hi;have h1 : lg E j = qL (gq (edL N N.ends.length) j) := by rw [Mf hj, qu hj2]; simp [hE]
      have h2 : (gp (gl N.ends k2) i).1 = (w : Int) := congrArg Prod.fst he;rw [h1, hq];exact ⟨k2, w, rfl, h2, rfl, hk, hw, by rw [Int.toNat_natCast], by dsimp only; rw [h2, Int.toNat_natCast]⟩
     refine dI ?_ ?_<;>intro hb
     ·refine ab (dR fun K hK => ?_);(repeat refine eV ?_);refine cL rfl ⟨rfl, _, rfl⟩ (by omega) (by first | exact Ts) (Em NFz N hg) ?_;rintro _ rfl;(repeat refine eV ?_);refine aa (hK _ (wK [0, 1, 5, 6, 7, 8, 13, 14] ?_));clear hK K;refine ab (dR fun K hK => ?_);(repeat refine eV ?_);refine cL rfl ⟨rfl, _, rfl⟩ (by omega) (by first | exact Tr) (hEO) ?_;rintro _ rfl;(repeat refine eV ?_);refine aa (hK _ (wK [0, 1, 5, 6, 7, 8, 13, 14, 15, 16] ?_));clear hK K;have dX := And.intro dX (@fnDefectsSt11.eq_def);refine ab (em fnDefectsSt11 (fun j r => match j with | 3 => r = [.c (.p (.int .i64 M))] | 6 => r = [.c (.p (.bool true)), .c (.p (.bool true))] | _ => True) fun K hK => ?_);(repeat refine dV ?_);have dX := And.intro dX (@fnDefectsSt11.eq_def);refine dcF rfl ⟨rfl, _, rfl⟩ (by omega) (by first | exact Lw | exact Lx) (hQ1) ?_;rintro _ rfl;(repeat refine dV ?_);have dX := And.intro dX (And.intro @fnDefectsSt11.eq_def (And.intro @hk0 @htd));(repeat refine dV ?_);have dX := And.intro dX (@fnDefectsSt11.eq_def);refine dcF rfl ⟨rfl, _, rfl⟩ (by omega) (by first | exact Lw | exact Lx) (hID) ?_;rintro _ rfl;(repeat refine dV ?_);refine a6 (hK _ (wK [0, 1, 6, 7, 8, 14, 15, 16, 17, 18] ?_));clear hK K;refine ab ?_;refine ab (dR fun K hK => ?_);(repeat refine eV ?_);refine cgF rfl rfl ⟨rfl, _, rfl⟩ (by omega) (by first | exact Lw) (Hf true 3 (dfs N m S) (by omega)) ?_;rintro _ rfl;(repeat refine eV ?_);have dX := And.intro dX (And.intro @hq1 @hq2);(repeat refine eV ?_);have dK := And.intro @hq1 @hq2;refine aa (hK _ (a7 [0, 1, 7, 8, 15, 119] ?_));clear hK K;refine dI ?_ ?_<;>intro hb
      ·cases hb
      ·refine af ?_;show DW _ _ _ _ _;refine ab (dR fun K hK => ?_);(repeat refine eV ?_);refine aa (hK _ (wK [0, 1, 7, 8, 15, 19] ?_));clear hK K;refine Fz 15 [0, 1, 7, 8, 15, 19] rfl rfl (by simp only [ac, pZ, simprocAttr, Lf, G7, Bc, Bb, ru]; exact rfl) ?_;refine Fz 7 [0, 1, 7, 8, 15, 19] rfl rfl (by simp only [ac, pZ, simprocAttr, Lf, G7, Bc, Bb, ru]; exact rfl) ?_;refine ab ?_;refine ab (dR fun K hK => ?_);(repeat refine eV ?_);refine aa (hK _ (wK [0, 1, 7, 8, 15, 19, 120, 121, 122] ?_));clear hK K;refine ah ?_;refine ax (X := Nat) (fun j => j ≤ E.length) (fun j => [(19, .c (.p (.int .i64 (ct (fun j => decide (gi (dfs N m S) (gq (edL N N.ends.length) j).1.toNat = gi (dfs N m S) (gq (edL N N.ends.length) j).2.2.1.toNat)) j)))), (122, .c (.p (.int .i64 j)))]) (fun j => []) (fun j => E.length - j) 0 (Nat.zero_le _) (by first | rfl | (simp only [ac, pZ, simprocAttr, Int.natCast_zero, ct] <;> rfl)) ?_;rintro j hj;intro E hE;simp only [ac, pZ, simprocAttr] at hE;subst hE;have hct := Ic (fun j => decide (gi (dfs N m S) (gq (edL N N.ends.length) j).1.toNat = gi (dfs N m S) (gq (edL N N.ends.length) j).2.2.1.toNat)) j;refine ab (dR fun K hK => ?_);(repeat refine eV ?_);refine aa (hK _ (wK [0, 1, 7, 8, 15, 19, 120, 121, 122, 123] ?_));clear hK K;refine ab (dI (fun hb => ?_) (fun hb => ?_))
       ·have hj1 : j < E.length := by simpa using hb
        obtain ⟨v, w, hv0, hw2, h4, hvN, hwN, hva, hwa⟩ := hrow j hj1
        have hcs : ct (fun j => decide (gi (dfs N m S) (gq (edL N N.ends.length) j).1.toNat = gi (dfs N m S) (gq (edL N N.ends.length) j).2.2.1.toNat)) (j + 1) = ct (fun j => decide (gi (dfs N m S) (gq (edL N N.ends.length) j).1.toNat = gi (dfs N m S) (gq (edL N N.ends.length) j).2.2.1.toNat)) j + if decide (gi (dfs N m S) (gq (edL N N.ends.length) j).1.toNat = gi (dfs N m S) (gq (edL N N.ends.length) j).2.2.1.toNat) = true then 1 else 0 := rfl
        rw [hva, hwa] at hcs;have ht2 : (2 : Int).toNat = 2 := rfl;have hvl : v < (dfs N m S).length := by omega
        have hwl : w < (dfs N m S).length := by omega
        refine af ?_;show DW _ _ _ _ _;refine ab (ah ?_);refine ab (dR fun K hK => ?_);(repeat refine eV ?_);refine aa (hK _ (wK [0, 1, 7, 8, 15, 19, 21, 120, 121, 122] ?_));clear hK K;have dX := And.intro dX (And.intro @fnDefectsSt18.eq_def (And.intro @hv0 (And.intro @ht2 (And.intro @hw2 (And.intro @Int.toNat_natCast @ca)))));refine ab (em fnDefectsSt18 (fun j r => match j with | _ => True) fun K hK => ?_);(repeat refine dV ?_);have dK := And.intro @hv0 (And.intro @ht2 @hw2);refine a6 (hK _ (a7 [0, 1, 7, 8, 15, 19, 120, 121, 122, 138] ?_));clear hK K;refine dI ?_ ?_<;>intro hb
        ·have hb2 : gi (dfs N m S) v = gi (dfs N m S) w := by simpa [hv0, hw2, ht2, Int.toNat_natCast] using hb
         have hc2 : ((ct (fun j => decide (gi (dfs N m S) (gq (edL N N.ends.length) j).1.toNat = gi (dfs N m S) (gq (edL N N.ends.length) j).2.2.1.toNat)) j : Nat) : Int) + 1 = ((ct (fun j => decide (gi (dfs N m S) (gq (edL N N.ends.length) j).1.toNat = gi (dfs N m S) (gq (edL N N.ends.length) j).2.2.1.toNat)) (j + 1) : Nat) : Int) := by rw [hcs, if_pos (decide_eq_true hb2)]; omega
         refine dR fun K hK => ?_;(repeat refine eV ?_);have dK := @hc2;refine aa (hK _ (a7 [0, 1, 7, 8, 15, 19, 120, 121, 122] ?_));clear hK K;refine dR fun K hK => ?_;(repeat refine eV ?_);have dK := @bu;refine aa (hK _ ?_);clear hK K;show ∃ x, _ ∧ _ ∧ Weak _ _;refine ⟨j + 1, ?_, ?_, ay [0, 1, 7, 8, 15, 19, 120, 121, 122]⟩
         ·omega
         ·omega
        ·have hb2 : ¬ gi (dfs N m S) v = gi (dfs N m S) w := by simpa [hv0, hw2, ht2, Int.toNat_natCast] using hb
         have hc2 : ct (fun j => decide (gi (dfs N m S) (gq (edL N N.ends.length) j).1.toNat = gi (dfs N m S) (gq (edL N N.ends.length) j).2.2.1.toNat)) (j + 1) = ct (fun j => decide (gi (dfs N m S) (gq (edL N N.ends.length) j).1.toNat = gi (dfs N m S) (gq (edL N N.ends.length) j).2.2.1.toNat)) j := by rw [hcs, if_neg (fun h => hb2 (of_decide_eq_true h)), Nat.add_zero]
         refine af ?_;show DW _ _ _ _ _;refine dR fun K hK => ?_;(repeat refine eV ?_);have dK := And.intro @bu @hc2;refine aa (hK _ ?_);clear hK K;show ∃ x, _ ∧ _ ∧ Weak _ _;refine ⟨j + 1, ?_, ?_, ay [0, 1, 7, 8, 15, 19, 120, 121, 122]⟩
         ·omega
         ·omega
       ·have hj2 : j = (edL N N.ends.length).length := by
         have : ¬ j < E.length := by simpa using hb
         omega
        rw [← hj2] at hict;have hq3 : decide (((ct (fun j => decide (gi (dfs N m S) (gq (edL N N.ends.length) j).1.toNat = gi (dfs N m S) (gq (edL N N.ends.length) j).2.2.1.toNat)) j : Nat) : Int) + (S : Int) > (E.length : Int)) = false := decide_eq_false (by omega);refine ao ?_;refine ba [0, 1, 8, 15, 19] (by simp only [ac, pZ, simprocAttr]; exact rfl) ?_;have dX := And.intro dX (@hq3);refine ab (dR fun K hK => ?_);(repeat refine eV ?_);have dK := @hq3;refine aa (hK _ (a7 [0, 1, 147] ?_));clear hK K;refine dI ?_ ?_<;>intro hb
        ·cases hb
        ·refine af ?_;show ∃ x, _ ∧ Weak _ _;refine ⟨(), ?_, (aw _ [0, 1]).trans (Weak.of_eq (by simp only [ac, pZ, simprocAttr] <;> exact rfl))⟩;trivial
     ·cases hb
   ·rintro x -;refine ab (dR fun K hK => ?_);(repeat refine eV ?_);refine caF rfl ⟨rfl, _, rfl⟩ (by omega) (by first | exact Tq) (rc b hby2) ?_;rintro _ ⟨N2, col, d, rfl, htm2, hcl⟩;(repeat refine eV ?_);refine aa (hK _ (wK [0, 22, 23, 24] ?_));clear hK K;have hi2 := htm2.ids;have hn2 := htm2.len;refine ab (dR fun K hK => ?_);(repeat refine eV ?_);refine cL rfl ⟨rfl, _, rfl⟩ (by omega) (by first | exact Lx) (nc NFz N2 true 3 col d (by omega) (by omega) (by omega)) ?_;rintro _ rfl;(repeat refine eV ?_);refine aa (hK _ (wK [0, 22, 23, 24, 25, 26] ?_));clear hK K;refine ab (dR fun K hK => ?_);(repeat refine eV ?_);refine cL rfl ⟨rfl, _, rfl⟩ (by omega) (by first | exact Tp) (yx NFz N2 true 3 col d (by omega) (by omega) (by omega)) ?_;rintro _ rfl;(repeat refine eV ?_);refine aa (hK _ (wK [0, 22, 23, 24, 25, 26, 27, 28] ?_));clear hK K;refine ab ?_;refine ab (dR fun K hK => ?_);(repeat refine eV ?_);refine aa (hK _ (wK [0, 22, 23, 24, 25, 26, 175] ?_));clear hK K;refine dI ?_ ?_<;>intro hb
    ·simp at hb
    ·obtain ⟨pr, th, hIC, hpr⟩ := tc N2 true 3 col (by omega) (by omega);refine af ?_;show DW _ _ _ _ _;refine ab (dR fun K hK => ?_);(repeat refine eV ?_);refine cL rfl ⟨rfl, _, rfl⟩ (by omega) (by first | exact To) (hIC) ?_;rintro _ rfl;(repeat refine eV ?_);refine aa (hK _ (wK [0, 24, 25, 26, 29, 30] ?_));clear hK K;refine fl (X := Unit) (fun x => True) (fun x => mkE 220 [(0, .c (.sl false 5 1 (a.map bC)))] []) ?_ ?_
     ·cases hc : eh N2 col with
      | false =>
       have dX := And.intro dX (And.intro @hc @Bool.false_and);refine ab (dR fun K hK => ?_);(repeat refine eV ?_);have dX := And.intro dX (And.intro @hc @Bool.false_and);(repeat refine eV ?_);have dX := And.intro dX (And.intro @hc @Bool.false_and);(repeat refine eV ?_);have dK := And.intro @hc @Bool.false_and;refine aa (hK _ (a7 [0, 194] ?_));clear hK K;refine dI ?_ ?_<;>intro hb
       ·cases hb
       ·refine af ?_;show ∃ x, _ ∧ Weak _ _;refine ⟨(), ?_, (aw _ [0]).trans (Weak.of_eq (by simp only [ac, pZ, simprocAttr] <;> exact rfl))⟩;trivial
      | true =>
       cases hd0 : decide (0 ≤ d) with
       | false =>
        have dX := And.intro dX (And.intro @hc (And.intro @hd0 (And.intro @Bool.true_and @Bool.false_and)));refine ab (dR fun K hK => ?_);(repeat refine eV ?_);have dX := And.intro dX (And.intro @hc (And.intro @hd0 (And.intro @Bool.true_and @Bool.false_and)));(repeat refine eV ?_);have dX := And.intro dX (And.intro @hc (And.intro @hd0 (And.intro @Bool.true_and @Bool.false_and)));(repeat refine eV ?_);have dK := And.intro @hc (And.intro @hd0 (And.intro @Bool.true_and @Bool.false_and));refine aa (hK _ (a7 [0, 194] ?_));clear hK K;refine dI ?_ ?_<;>intro hb
        ·cases hb
        ·refine af ?_;show ∃ x, _ ∧ Weak _ _;refine ⟨(), ?_, (aw _ [0]).trans (Weak.of_eq (by simp only [ac, pZ, simprocAttr] <;> exact rfl))⟩;trivial
       | true =>
        cases th with
        | false =>
         have dX := And.intro dX (And.intro @hc (And.intro @hd0 (And.intro @Bool.true_and @Bool.false_and)));refine ab (dR fun K hK => ?_);(repeat refine eV ?_);have dX := And.intro dX (And.intro @hc (And.intro @hd0 (And.intro @Bool.true_and @Bool.false_and)));(repeat refine eV ?_);have dX := And.intro dX (And.intro @hc (And.intro @hd0 (And.intro @Bool.true_and @Bool.false_and)));(repeat refine eV ?_);have dK := And.intro @hc (And.intro @hd0 (And.intro @Bool.true_and @Bool.false_and));refine aa (hK _ (a7 [0, 194] ?_));clear hK K;refine dI ?_ ?_<;>intro hb
         ·cases hb
         ·refine af ?_;show ∃ x, _ ∧ Weak _ _;refine ⟨(), ?_, (aw _ [0]).trans (Weak.of_eq (by simp only [ac, pZ, simprocAttr] <;> exact rfl))⟩;trivial
        | true =>
         by_cases hd : d = 0
         ·subst hd;obtain rfl := hpr hc;have hz1 : decide ((0 : Int) = 0) = true := rfl;have hz2 : ((0 : Int) == 0) = true := rfl;have dX := And.intro dX (And.intro @hc (And.intro @hd0 (And.intro @Bool.true_and (And.intro @Bool.false_and (And.intro @hz1 @hz2)))));refine ab (dR fun K hK => ?_);(repeat refine eV ?_);have dX := And.intro dX (And.intro @hc (And.intro @hd0 (And.intro @Bool.true_and (And.intro @Bool.false_and (And.intro @hz1 @hz2)))));(repeat refine eV ?_);have dX := And.intro dX (And.intro @hc (And.intro @hd0 (And.intro @Bool.true_and (And.intro @Bool.false_and (And.intro @hz1 @hz2)))));(repeat refine eV ?_);have dK := And.intro @hc (And.intro @hd0 (And.intro @Bool.true_and (And.intro @Bool.false_and (And.intro @hz1 @hz2))));refine aa (hK _ (a7 [0, 194] ?_));clear hK K;refine dI ?_ ?_<;>intro hb
          ·cases hb
          ·refine af ?_;show ∃ x, _ ∧ Weak _ _;refine ⟨(), ?_, (aw _ [0]).trans (Weak.of_eq (by simp only [ac, pZ, simprocAttr] <;> exact rfl))⟩;trivial
         ·have hd1 : decide (d = 0) = false := decide_eq_false hd;have hd2 : (d == 0) = false := by rw [beq_eq_false_iff_ne]; exact hd
          have dX := And.intro dX (And.intro @hc (And.intro @hd0 (And.intro @Bool.true_and (And.intro @Bool.false_and (And.intro @hd1 @hd2)))));refine ab (dR fun K hK => ?_);(repeat refine eV ?_);have dX := And.intro dX (And.intro @hc (And.intro @hd0 (And.intro @Bool.true_and (And.intro @Bool.false_and (And.intro @hd1 @hd2)))));(repeat refine eV ?_);have dX := And.intro dX (And.intro @hc (And.intro @hd0 (And.intro @Bool.true_and (And.intro @Bool.false_and (And.intro @hd1 @hd2)))));(repeat refine eV ?_);have dK := And.intro @hc (And.intro @hd0 (And.intro @Bool.true_and (And.intro @Bool.false_and (And.intro @hd1 @hd2))));refine aa (hK _ (a7 [0, 194] ?_));clear hK K;refine dI ?_ ?_<;>intro hb
          ·cases hb
          ·refine af ?_;show ∃ x, _ ∧ Weak _ _;refine ⟨(), ?_, (aw _ [0]).trans (Weak.of_eq (by simp only [ac, pZ, simprocAttr] <;> exact rfl))⟩;trivial
     ·rintro x -;refine ab (dR fun K hK => ?_);(repeat refine eV ?_);refine caF rfl ⟨rfl, _, rfl⟩ (by omega) (by first | exact Tn) (Ci a hby) ?_;rintro _ ⟨N3, l3, rfl, htm3, hl3⟩;(repeat refine eV ?_);refine aa (hK _ (wK [31, 32] ?_));clear hK K;have hi3 := htm3.ids;have hn3 := htm3.len;refine ab (dR fun K hK => ?_);(repeat refine eV ?_);refine cL rfl ⟨rfl, _, rfl⟩ (by omega) (by first | exact Tm) (J3 NFz N3 true 3 l3 (by omega) (by omega) (by omega)) ?_;rintro _ rfl;(repeat refine eV ?_);refine aa (hK _ (wK [31, 32, 33, 34] ?_));clear hK K;refine ab (dR fun K hK => ?_);(repeat refine eV ?_);refine cL rfl ⟨rfl, _, rfl⟩ (by omega) (by first | exact Tl) (Nr NFz N3 true 3 l3 (by omega) (by omega) (by omega)) ?_;rintro _ rfl;(repeat refine eV ?_);refine aa (hK _ (wK [33, 34, 35, 36] ?_));clear hK K;refine ab (dR fun K hK => ?_);(repeat refine eV ?_);refine aa (hK _ (wK [4] ?_));clear hK K;exact aj (mq Tryz.results5 (.one (.re _ _ (.plain _ _ rfl))) (by decide) rfl)
theorem Fo (v0 v1 : Value) (L0 L1 : Nat) (w : World) (h0 : En w v0 L0) (h1 : En w v1 L1) : Calls Tryz.prog 5 #[v0, v1] w (na w (.bool true)) := Rk (fun a b hA hB => El a b hA hB) h0 h1
end
end Go.Proofs.YtolpiolnhgpjjaaGreat
