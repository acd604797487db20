/- Parts of the proof. -/
import Derived.Test.YtolpiolnhgpjjaaGreatCJn46
import Derived.Test.YtolpiolnhgpjjaaGreatCJn45
import Derived.Test.YtolpiolnhgpjjaaGreatCIpm
import Derived.Test.YtolpiolnhgpjjaaGreatCJn21
import Derived.Test.YtolpiolnhgpjjaaGreatCLwb
import Derived.Test.YtolpiolnhgpjjaaGreatCJn36
import Derived.Test.YtolpiolnhgpjjaaGreatCNob
set_option linter.unusedSimpArgs false
set_option linter.unusedVariables false
namespace Go.Proofs.YtolpiolnhgpjjaaGreat
section
open Go Go.RowKit Go.Sort
theorem Se (N : Net) (htm : Tame N) (ord : List Int) (al : Int) : ∃ (L : List Int) (ok : Bool), DCalls Tryz.prog 21 [.agg (bi NFz N), .c (.sl true 3 1 (ord.map iC)), .c (.p (.int .i64 al))] (fun r => r = [.own false [.sl true 3 1 (L.map iC)], .c (.p (.bool ok))]) ∧ DCalls Tryz.prog 22 [.agg (bi NFz N), .c (.sl true 3 1 (ord.map iC)), .c (.p (.int .i64 al))] (fun r => r = [.own false [.sl true 3 1 (L.map iC)], .c (.p (.bool ok))]) ∧ L.length ≤ 64 ∧
 (ok = true → ∃ m : Nat, al = m ∧ 1 ≤ m ∧ m ≤ 40 ∧ bj N = true ∧ dc ord N.ends.length = true ∧ L = sorted (co (cx N m) ord N.ends.length)) := by
 have hli := htm.ids;have hln := htm.len
 by_cases h : (bj N && dc ord N.ends.length && inB al 1 40) = true
 ·simp only [Bool.and_eq_true] at h;obtain ⟨⟨hg, hp⟩, hk⟩ := h;have hk2 := ce.1 hk;obtain ⟨m, rfl⟩ := Int.eq_ofNat_of_zero_le (show 0 ≤ al by omega);have hgl := n9 (bad := cx N m) (ord := ord) N.ends.length;exact ⟨_, true, Ah NFz N true 3 ord m hg hp (by omega) (by omega), w5 NFz N true 3 ord m hg hp (by omega) (by omega), by rw [dm]; omega, fun _ => ⟨m, rfl, by omega, by omega, hg, hp, rfl⟩⟩
 ·have h := Bool.eq_false_iff.2 h;exact ⟨[], false, vk NFz N true 3 ord al (by omega) (by omega) h, vj NFz N true 3 ord al (by omega) (by omega) h, by simp, fun h => by cases h⟩
theorem R9 (N : Net) (htm : Tame N) : ∃ (L : List Int) (ok : Bool), DCalls Tryz.prog 28 [.agg (bi NFz N)] (fun r => r = [.own false [.sl true 3 1 (L.map iC)], .c (.p (.bool ok))]) ∧ DCalls Tryz.prog 29 [.agg (bi NFz N)] (fun r => r = [.own false [.sl true 3 1 (L.map iC)], .c (.p (.bool ok))]) ∧ L.length ≤ 64 ∧
 (ok = true → bj N = true ∧ ∃ k r, LeastS (i6 N) N.ends.length k r ∧ L = sbs N.ends.length 0 k r) := by
 have hli := htm.ids;have hln := htm.len
 by_cases h : (bj N && decide (N.ends.length ≤ 14)) = true
 ·have h2 := h;rw [Bool.and_eq_true, decide_eq_true_iff] at h2;obtain ⟨hg, h14⟩ := h2;obtain ⟨k, r, hk, hL⟩ := Mg (good := i6 N) (n := N.ends.length) Qe;exact ⟨_, true, rz NFz N k r hg h14 hL, ry NFz N k r hg h14 hL, by rw [hL.len]; omega, fun _ => ⟨hg, k, r, hL, rfl⟩⟩
 ·have h := Bool.eq_false_iff.2 h;exact ⟨[], false, px NFz N (by omega) (by omega) h, pw NFz N (by omega) (by omega) h, by simp, fun h => by cases h⟩
theorem Sh (N : Net) (htm : Tame N) : ∃ (L : List Int) (ok : Bool), DCalls Tryz.prog 30 [.agg (bi NFz N)] (fun r => r = [.own false [.sl true 3 1 (L.map iC)], .c (.p (.bool ok))]) ∧ DCalls Tryz.prog 31 [.agg (bi NFz N)] (fun r => r = [.own false [.sl true 3 1 (L.map iC)], .c (.p (.bool ok))]) ∧ L.length ≤ 64 ∧
 (ok = true → bj N = true ∧ i6 N L = true ∧ L.Pairwise (· < ·) ∧ ∀ x ∈ L, 0 ≤ x ∧ x < N.ends.length) := by
 have hli := htm.ids;have hln := htm.len
 by_cases hg : bj N = true
 ·obtain ⟨hs, hn, hids, hdg⟩ := cp hg;have hn1 : 0 < N.ends.length := by omega
  obtain ⟨s, hf⟩ := Sg hs;have hsl := hf.le hn1;have hgl : (grD N s).length = s := by unfold grD; rw [dm, xf]
  exact ⟨_, true, pz NFz N s hg hf, py NFz N s hg hf, by omega, fun _ => ⟨hg, hf.dom hs hn1, hf.inc, Km hn1⟩⟩
 ·have h := Bool.eq_false_iff.2 hg;exact ⟨[], false, ow NFz N (by omega) h, ov NFz N (by omega) h, by simp, fun h => by cases h⟩
theorem Ot {L : List Int} {n : Nat} (h : L.Pairwise (· < ·)) (hm : ∀ x ∈ L, 0 ≤ x ∧ x < (n : Int)) : js L 0 ((n : Int) - 1) = true := Rw h fun x hx => by have := hm x hx; omega
end
section
open Go Go.RowKit Go.Sort
theorem W4 (a b : Nat) : Int.tmod (a : Int) (b : Int) = ((a % b : Nat) : Int) := rfl
def fnRulSt20 : Nat → Stat
 | 0 => ⟨[17], [], [], [116], [], []⟩
 | 1 => ⟨[20], [], [], [117], [], []⟩
 | 2 => ⟨[116, 117], [], [], [118], [], []⟩
 | 3 => ⟨[118], [], [], [119], [], []⟩
 | 4 => ⟨[119], [], [], [120], [], []⟩
 | 5 => ⟨[120], [], [], [121], [], []⟩
 | 6 => ⟨[17, 121], [], [], [122], [], []⟩
 | 7 => ⟨[20, 121], [], [], [123], [], []⟩
 | 8 => ⟨[122, 123, 121], [], [], [124], [], []⟩
 | 9 => ⟨[124, 121], [], [], [125], [], []⟩
 | 10 => ⟨[17, 121], [], [], [126], [], []⟩
 | 11 => ⟨[14, 121], [], [], [127], [], []⟩
 | 12 => ⟨[16, 121], [], [], [128], [], []⟩
 | 13 => ⟨[127, 128, 121], [], [], [129], [], []⟩
 | 14 => ⟨[129, 121], [], [], [130], [], []⟩
 | 15 => ⟨[126, 130, 121], [], [], [131], [], []⟩
 | 16 => ⟨[131, 121], [], [], [132], [], []⟩
 | 17 => ⟨[125, 132, 121], [], [], [133], [], []⟩
 | 18 => ⟨[121, 133], [], [], [134], [], []⟩
 | _ => ⟨[], [], [], [], [], []⟩
def zBLaRulingSets1 := PLift.up (And.intro ap (And.intro @b6 (And.intro bc (And.intro @if_pos.{1} (And.intro b9 (And.intro @netZ.eq_1 (And.intro @netO.eq_1 (And.intro X7 (And.intro @bne_self_eq_false.{0} (And.intro @beq_self_eq_true.{0} (And.intro @Bool.not_true (And.intro @Bool.not_false (And.intro @Bool.true_beq (And.intro @Bool.false_beq (And.intro @bq (And.intro @ba @trivial))))))))))))))))
theorem w4 : type_of% zBLaRulingSets1.down := zBLaRulingSets1.down
set_option maxRecDepth 8000 in
set_option maxHeartbeats 0 in
theorem Ai (a b : List Int) (hA : i9 a) (hB : i9 b) : de Tryz.prog 4 [.c (fq a), .c (fq b)] (fun r => r = [.c (.p (.bool true))]) := by
 refine vh (by simp [Arg.isIo]) Tryz.func4 rfl (by rw [Tryz.ntmps4]; simp) fun w0 => ?_;rw [Tryz.ntmps4];have dX := w4;simp only [b4, bd, Arg.av, fq];refine ab (dR fun K hK => ?_);(repeat refine eV ?_);refine aa (hK _ (wK [0, 1] ?_));clear hK K;refine ab ?_;refine ab (dR fun K hK => ?_);(repeat refine eV ?_);refine cL rfl ⟨rfl, _, rfl⟩ (by omega) (by first | exact Yr) (X8 a b hA) ?_;rintro _ rfl;(repeat refine eV ?_);refine aa (hK _ (wK [0, 1, 34] ?_));clear hK K;refine dI ?_ ?_<;>intro hb
 ·refine ab (dR fun K hK => ?_);(repeat refine eV ?_);refine aa (hK _ (wK [4] ?_));clear hK K;exact ak (jy Tryz.results4 (.one (.re _ _ (.plain _ _ rfl))) (by decide) rfl)
 ·obtain ⟨hby, hby2⟩ := S9 hb hA hB;refine af ?_;show DW _ _ _ _ _;refine ab (dR fun K hK => ?_);(repeat refine eV ?_);refine caF rfl ⟨rfl, _, rfl⟩ (by omega) (by first | exact Xz) (r4 a hby) ?_;rintro _ ⟨N, ord, al, rfl, htm, hol⟩;(repeat refine eV ?_);refine aa (hK _ (wK [1, 5, 6, 7] ?_));clear hK K;obtain ⟨L, ok, hI, hS, hLl, hok⟩ := Se N htm ord al;have hLs := qq L;refine ab (dR fun K hK => ?_);(repeat refine eV ?_);refine cL rfl ⟨rfl, _, rfl⟩ (by omega) (by first | exact Xy) (hI) ?_;rintro _ rfl;(repeat refine eV ?_);refine aa (hK _ (wK [1, 5, 6, 7, 8, 9] ?_));clear hK K;refine ab (dR fun K hK => ?_);(repeat refine eV ?_);refine cL rfl ⟨rfl, _, rfl⟩ (by omega) (by first | exact Xx) (hS) ?_;rintro _ rfl;(repeat refine eV ?_);refine aa (hK _ (wK [1, 5, 7, 8, 9, 10, 11] ?_));clear hK K;refine ab ?_;refine ab (dR fun K hK => ?_);(repeat refine eV ?_);refine cgF rfl rfl ⟨rfl, _, rfl⟩ (by omega) (by first | exact Pq) (qr true 3 L true 3 L (by omega) (by omega)) ?_;rintro _ rfl;(repeat refine eV ?_);have dX := And.intro dX (@hLs);(repeat refine eV ?_);have dK := @hLs;refine aa (hK _ (ax [1, 5, 7, 8, 9, 63] ?_));clear hK K;refine dI ?_ ?_<;>intro hb
  ·cases hb
  ·refine af ?_;show DW _ _ _ _ _;refine mi (X := Unit) (fun x => True) (fun x => mkE 212 [(1, .c (.sl false 5 1 (b.map bC)))] []) ?_ ?_
   ·refine ab (dR fun K hK => ?_);(repeat refine eV ?_);refine aa (hK _ (wK [1, 5, 7, 8, 64] ?_));clear hK K
    cases ok with
    | false =>
     refine dI ?_ ?_<;>intro hb
     ·cases hb
     ·refine af ?_;show ∃ x, _ ∧ Weak _ _;refine ⟨(), ?_, (ch _ [1]).trans (Weak.of_eq (by simp only [ac, pZ, simprocAttr] <;> exact rfl))⟩;trivial
    | true =>
     obtain ⟨m, rfl, hm1, hm2, hg, hp, hLe⟩ := hok rfl;obtain ⟨hs, hn, hids, hdg⟩ := cp hg;have hli := htm.ids;have hln := htm.len;have hn1 : 0 < N.ends.length := by omega
     obtain ⟨hol2, hoi, hod⟩ := l9 hp;obtain ⟨hr1, hr2⟩ := Li hs hp hm1;have hmemL : ∀ {x : Int}, x ∈ L ↔ x ∈ co (cx N m) ord N.ends.length := fun {x} => by rw [hLe]; exact e8
     have hLi : L.Pairwise (· < ·) := by rw [hLe]; exact l0 (md hp _ (Nat.le_refl _))
     have hLm : ∀ x ∈ L, 0 ≤ x ∧ x < (N.ends.length : Int) := fun x hx => by
      obtain ⟨i, hi, he⟩ := fp (bad := cx N m) (ord := ord) N.ends.length (hmemL.1 hx);have h3 := hoi i hi;omega
     have hrise := Ot hLi hLm;have hap : ∀ v w : Nat, (v : Int) ∈ L → (w : Int) ∈ L → v ≠ w → inB (gi (bo N v) w) 0 ((m : Int) - 1) = false := fun v w hv hw hne => hr1 v w (hmemL.1 hv) (hmemL.1 hw) hne;have hmc : (m : Int) - 1 = ((m - 1 : Nat) : Int) := by omega
     have hcv : ∀ v, v < N.ends.length → jc L.length (fun j => inB (gi (bo N v) (gi L j).toNat) 0 ((m - 1 : Nat) : Int)) = true := fun v hv => by
      obtain ⟨w, hw, hb2⟩ := hr2 v hv;obtain ⟨j, hj, he⟩ := List.getElem_of_mem (hmemL.2 hw);refine ft.2 ⟨j, hj, ?_⟩;rw [bm hj, he, Int.toNat_natCast, ← hmc]; exact hb2
     have hIR := Ji NFz N true 3 L m (m - 1) hg hrise (by omega) hLm hm1 hm2 (by omega) hap hcv;obtain ⟨r, hr⟩ : ∃ r, r = E9 b b.length % N.ends.length := ⟨_, rfl⟩;have hrl : r < N.ends.length := by rw [hr]; exact Nat.mod_lt _ hn1
     have hmod : Int.tmod (E9 b b.length : Int) (N.ends.length : Int) = (r : Int) := by rw [W4, ← hr]
     have hn0 : ((N.ends.length : Int) = 0) ↔ False := ⟨fun h => by omega, fun h => h.elim⟩;have hnl := yx N L N.ends.length;have hL0 : ∀ j, j < L.length → 0 ≤ gi L j := fun j hj => (hLm (gi L j) (by rw [bm hj]; exact List.getElem_mem hj)).1;obtain ⟨i0, hi0, hb0⟩ := ft.1 (hcv r hrl);obtain ⟨c, hc1, hc2, hc3, hc4⟩ := Oy (far := bo N r) hL0 hi0 (ce.1 hb0).1;obtain ⟨q, hq⟩ : ∃ q : Nat, gi L c = q := ⟨(gi L c).toNat, by have := hL0 c hc1; omega⟩
     have hql : q < N.ends.length := by
      have := hLm (gi L c) (by rw [bm hc1]; exact List.getElem_mem hc1);omega
     have hnr : gi (yz N L N.ends.length) r = (q : Int) := by rw [R5 hrl, hc2, hq]
     rw [hq, Int.toNat_natCast] at hc3 hc4;have hdl : (bo N r).length = N.ends.length := (c9 hs hrl).len;have hnn : decide ((q : Int) < 0) = false := decide_eq_false (by omega);refine dI ?_ ?_<;>intro hb
     ·have dX := And.intro dX (@hmc);refine ab (dR fun K hK => ?_);(repeat refine eV ?_);have dX := And.intro dX (@hmc);refine cL rfl ⟨rfl, _, rfl⟩ (by omega) (by first | exact Xw) (hIR) ?_;rintro _ rfl;(repeat refine eV ?_);refine aa (hK _ (wK [1, 5, 8, 12, 13] ?_));clear hK K;refine ab (dR fun K hK => ?_);(repeat refine eV ?_);refine cL rfl ⟨rfl, _, rfl⟩ (by omega) (by first | exact Xv) (Gx NFz N true 3 L hg hrise (by omega) hLm) ?_;rintro _ rfl;(repeat refine eV ?_);refine aa (hK _ (wK [1, 5, 8, 12, 13, 14, 15] ?_));clear hK K;refine ab ?_;refine ab (dR fun K hK => ?_);(repeat refine eV ?_);refine aa (hK _ (wK [1, 5, 8, 14, 89] ?_));clear hK K;refine dI ?_ ?_<;>intro hb
      ·cases hb
      ·refine af ?_;show DW _ _ _ _ _;have dX := And.intro dX (And.intro @hnl (And.intro @hmod @hn0));refine ab (dR fun K hK => ?_);(repeat refine eV ?_);have dX := And.intro dX (And.intro @hnl (And.intro @hmod @hn0));refine cL rfl ⟨rfl, _, rfl⟩ (by omega) (by first | exact Xu) (H6 b hby2) ?_;rintro _ rfl;(repeat refine eV ?_);have dK := And.intro @hnl (And.intro @hmod @hn0);refine aa (hK _ (ax [1, 5, 8, 14, 16] ?_));clear hK K;refine ab (dR fun K hK => ?_);(repeat refine eV ?_);refine cL rfl ⟨rfl, _, rfl⟩ (by omega) (by first | exact Xt) (w6 NFz N r hg hrl) ?_;rintro _ rfl;(repeat refine eV ?_);refine aa (hK _ (wK [1, 8, 14, 16, 17, 18] ?_));clear hK K;obtain ⟨D, hD⟩ : ∃ D, D = bo N r := ⟨_, rfl⟩;rw [← hD] at hc3 hc4 hdl ⊢;obtain ⟨R, hR⟩ : ∃ R, R = yz N L N.ends.length := ⟨_, rfl⟩;rw [← hR] at hnr hnl ⊢;refine ab ?_;have dX := And.intro dX (And.intro @hnr (And.intro @hnn @Int.toNat_natCast));refine ab (dR fun K hK => ?_);(repeat refine eV ?_);have dK := And.intro @hnr (And.intro @hnn @Int.toNat_natCast);refine aa (hK _ (ax [1, 8, 14, 16, 17, 109] ?_));clear hK K;refine dI ?_ ?_<;>intro hb
       ·cases hb
       ·refine af ?_;show DW _ _ _ _ _;refine mh 8 [1, 8, 14, 16, 17] rfl rfl (by simp only [ac, pZ, simprocAttr, sj, qc, jf, je, fw]; exact rfl) ?_;refine mh 14 [1, 8, 14, 16, 17] rfl rfl (by simp only [ac, pZ, simprocAttr, sj, qc, jf, je, fw]; exact rfl) ?_;refine mh 17 [1, 8, 14, 16, 17] rfl rfl (by simp only [ac, pZ, simprocAttr, sj, qc, jf, je, fw]; exact rfl) ?_;refine ab (dR fun K hK => ?_);(repeat refine eV ?_);refine aa (hK _ (wK [1, 14, 16, 17, 110, 111, 112] ?_));clear hK K;refine ae ?_;refine au (X := Nat) (fun j => j ≤ L.length) (fun j => [(112, .c (.p (.int .i64 j)))]) (fun j => []) (fun j => L.length - j) 0 (Nat.zero_le _) (by first | rfl | (simp only [ac, pZ, simprocAttr, Int.natCast_zero] <;> rfl)) ?_;rintro j hj;intro E hE;simp only [ac, pZ, simprocAttr] at hE;subst hE;refine ab (dR fun K hK => ?_);(repeat refine eV ?_);refine aa (hK _ (wK [1, 14, 16, 17, 110, 111, 112, 113] ?_));clear hK K;refine ab (dI (fun hb => ?_) (fun hb => ?_))
        ·have hj1 : j < L.length := by simpa using hb
         obtain ⟨w, hw, hwl⟩ : ∃ w : Nat, gi L j = w ∧ w < N.ends.length := by
          have h := hLm (gi L j) (by rw [bm hj1]; exact List.getElem_mem hj1);exact ⟨(gi L j).toNat, by omega, by omega⟩
         have hle := hc4 j hj1;rw [hw, Int.toNat_natCast] at hle;refine af ?_;show DW _ _ _ _ _;refine ab (ae ?_);have dX := And.intro dX (@hw);refine ab (dR fun K hK => ?_);(repeat refine eV ?_);have dK := @hw;refine aa (hK _ (ax [1, 14, 16, 17, 20, 110, 111, 112] ?_));clear hK K
         by_cases g1 : 0 ≤ gi D w
         ·have d1 : decide (gi D w ≥ 0) = true := decide_eq_true g1;have d2 : decide (gi D w < gi D q) = false := decide_eq_false (by have := hle g1; omega);have dX := And.intro dX (And.intro @fnRulSt20.eq_def (And.intro @Int.toNat_natCast (And.intro @d1 (And.intro @d2 @hnr))));refine ab (fk fnRulSt20 (fun j r => True) fun K hK => ?_);(repeat refine dV ?_);have dK := And.intro @d1 (And.intro @d2 @hnr);refine br (hK _ (ax [1, 14, 16, 17, 110, 111, 112, 134] ?_));clear hK K;refine dI ?_ ?_<;>intro hb
          ·cases hb
          ·refine af ?_;show DW _ _ _ _ _;refine dR fun K hK => ?_;(repeat refine eV ?_);have dK := @bt;refine aa (hK _ ?_);clear hK K;show ∃ x, _ ∧ _ ∧ Weak _ _;refine ⟨j + 1, ?_, ?_, aq [1, 14, 16, 17, 110, 111, 112]⟩
           ·omega
           ·omega
         ·have d1 : decide (gi D w ≥ 0) = false := decide_eq_false g1;have dX := And.intro dX (And.intro @fnRulSt20.eq_def (And.intro @Int.toNat_natCast @d1));refine ab (fk fnRulSt20 (fun j r => True) fun K hK => ?_);(repeat refine dV ?_);have dK := @d1;refine br (hK _ (ax [1, 14, 16, 17, 110, 111, 112, 134] ?_));clear hK K;refine dI ?_ ?_<;>intro hb
          ·cases hb
          ·refine af ?_;show DW _ _ _ _ _;refine dR fun K hK => ?_;(repeat refine eV ?_);have dK := @bt;refine aa (hK _ ?_);clear hK K;show ∃ x, _ ∧ _ ∧ Weak _ _;refine ⟨j + 1, ?_, ?_, aq [1, 14, 16, 17, 110, 111, 112]⟩
           ·omega
           ·omega
        ·refine ao ?_;show ∃ z, _ ∧ _;exact ⟨(), trivial, Jp [1]⟩
     ·cases hb
   ·rintro x -;refine ab (dR fun K hK => ?_);(repeat refine eV ?_);refine caF rfl ⟨rfl, _, rfl⟩ (by omega) (by first | exact Xs) (nc b hby2) ?_;rintro _ ⟨M, rfl, htm2⟩;(repeat refine eV ?_);refine aa (hK _ (wK [21] ?_));clear hK K;obtain ⟨l, one, hlI, hlS, hll, hlo⟩ := R9 M htm2;obtain ⟨g, three, hgI, hgS, hgl, hgo⟩ := Sh M htm2;have hl1 := qq l;have hg1 := qq g;refine ab (dR fun K hK => ?_);(repeat refine eV ?_);refine cL rfl ⟨rfl, _, rfl⟩ (by omega) (by first | exact Xr) (hlI) ?_;rintro _ rfl;(repeat refine eV ?_);refine aa (hK _ (wK [21, 22, 23] ?_));clear hK K;refine ab (dR fun K hK => ?_);(repeat refine eV ?_);refine cL rfl ⟨rfl, _, rfl⟩ (by omega) (by first | exact Xq) (hlS) ?_;rintro _ rfl;(repeat refine eV ?_);refine aa (hK _ (wK [21, 22, 23, 24, 25] ?_));clear hK K;refine ab (dR fun K hK => ?_);(repeat refine eV ?_);refine cL rfl ⟨rfl, _, rfl⟩ (by omega) (by first | exact Xp) (hgI) ?_;rintro _ rfl;(repeat refine eV ?_);refine aa (hK _ (wK [21, 22, 23, 24, 25, 26, 27] ?_));clear hK K;refine ab (dR fun K hK => ?_);(repeat refine eV ?_);refine cL rfl ⟨rfl, _, rfl⟩ (by omega) (by first | exact Xo) (hgS) ?_;rintro _ rfl;(repeat refine eV ?_);refine aa (hK _ (wK [21, 22, 23, 24, 25, 26, 27, 28, 29] ?_));clear hK K;refine ab ?_;refine ab (dR fun K hK => ?_);(repeat refine eV ?_);refine cgF rfl rfl ⟨rfl, _, rfl⟩ (by omega) (by first | exact Pq) (qr true 3 l true 3 l (by omega) (by omega)) ?_;rintro _ rfl;(repeat refine eV ?_);have dX := And.intro dX (@hl1);(repeat refine eV ?_);have dX := And.intro dX (@hl1);refine cgF rfl rfl ⟨rfl, _, rfl⟩ (by omega) (by first | exact Pq) (qr true 3 g true 3 g (by omega) (by omega)) ?_;rintro _ rfl;(repeat refine eV ?_);have dX := And.intro dX (And.intro @hl1 @hg1);(repeat refine eV ?_);have dK := And.intro @hl1 @hg1;refine aa (hK _ (ax [21, 22, 23, 26, 27, 177] ?_));clear hK K;refine dI ?_ ?_<;>intro hb
    ·cases hb
    ·refine af ?_;show DW _ _ _ _ _;refine ab ?_;refine ab (dR fun K hK => ?_);(repeat refine eV ?_);refine aa (hK _ (wK [21, 22, 23, 26, 178] ?_));clear hK K
     cases three with
     | false =>
      refine dI ?_ ?_<;>intro hb
      ·cases hb
      ·refine af ?_;show DW _ _ _ _ _;refine ab (dR fun K hK => ?_);(repeat refine eV ?_);refine aa (hK _ (wK [4] ?_));clear hK K;exact ak (jy Tryz.results4 (.one (.re _ _ (.plain _ _ rfl))) (by decide) rfl)
     | true =>
      obtain ⟨hg, hdm, hgi, hgm⟩ := hgo rfl;have hID := ou NFz M true 3 g hg (Ot hgi hgm) (by omega);rw [hdm] at hID;refine dI ?_ ?_<;>intro hb
      ·refine ab (dR fun K hK => ?_);(repeat refine eV ?_);refine cL rfl ⟨rfl, _, rfl⟩ (by omega) (by first | exact Tz) (hID) ?_;rintro _ rfl;(repeat refine eV ?_);refine aa (hK _ (wK [21, 22, 23, 26, 30, 31] ?_));clear hK K
       cases one with
       | false =>
        refine ab ?_;refine ab (dR fun K hK => ?_);(repeat refine eV ?_);refine aa (hK _ (wK [21, 22, 23, 200] ?_));clear hK K;refine dI ?_ ?_<;>intro hb
        ·cases hb
        ·refine af ?_;show DW _ _ _ _ _;refine ab (dR fun K hK => ?_);(repeat refine eV ?_);refine aa (hK _ (wK [21, 22, 201] ?_));clear hK K;refine dI ?_ ?_<;>intro hb
         ·cases hb
         ·refine af ?_;show DW _ _ _ _ _;refine ab (dR fun K hK => ?_);(repeat refine eV ?_);refine aa (hK _ (wK [4] ?_));clear hK K;exact ak (jy Tryz.results4 (.one (.re _ _ (.plain _ _ rfl))) (by decide) rfl)
       | true =>
        obtain ⟨-, k, r, hL, hle⟩ := hlo rfl;have hlg : l.length ≤ g.length := by rw [hle]; exact hL.le hgi hgm hdm
        have hq1 : decide ((l.length : Int) > (g.length : Int)) = false := decide_eq_false (by omega);have hli2 : l.Pairwise (· < ·) := by rw [hle]; exact (qp _ _ _ _ hL.lt).2.1
        have hlm : ∀ x ∈ l, 0 ≤ x ∧ x < (M.ends.length : Int) := by rw [hle]; exact Ok hL.lt
        have hID2 := ou NFz M true 3 l hg (Ot hli2 hlm) (by omega);have hdm2 : i6 M l = true := by rw [hle]; exact hL.ok
        rw [hdm2] at hID2;refine ab ?_;have dX := And.intro dX (@hq1);refine ab (dR fun K hK => ?_);(repeat refine eV ?_);have dK := @hq1;refine aa (hK _ (ax [21, 22, 23, 200] ?_));clear hK K;refine dI ?_ ?_<;>intro hb
        ·cases hb
        ·refine af ?_;show DW _ _ _ _ _;refine ab (dR fun K hK => ?_);(repeat refine eV ?_);refine aa (hK _ (wK [21, 22, 201] ?_));clear hK K;refine dI ?_ ?_<;>intro hb
         ·refine ab (dR fun K hK => ?_);(repeat refine eV ?_);refine cL rfl ⟨rfl, _, rfl⟩ (by omega) (by first | exact Tz) (hID2) ?_;rintro _ rfl;(repeat refine eV ?_);refine aa (hK _ (wK [30, 31] ?_));clear hK K;refine ab (dR fun K hK => ?_);(repeat refine eV ?_);refine aa (hK _ (wK [4] ?_));clear hK K;exact ak (jy Tryz.results4 (.one (.re _ _ (.plain _ _ rfl))) (by decide) rfl)
         ·cases hb
      ·cases hb
theorem Ap (v0 v1 : Value) (L0 L1 : Nat) (w : World) (h0 : G0 w v0 L0) (h1 : G0 w v1 L1) : Calls Tryz.prog 4 #[v0, v1] w (ot w (.bool true)) := Va (fun a b hA hB => Ai a b hA hB) h0 h1
end
end Go.Proofs.YtolpiolnhgpjjaaGreat
