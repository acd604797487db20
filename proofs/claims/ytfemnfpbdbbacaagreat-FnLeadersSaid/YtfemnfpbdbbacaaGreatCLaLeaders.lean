/- laws.FnLeaders over data -/
import Derived.Test.YtfemnfpbdbbacaaGreatCJn51
import Derived.Test.YtfemnfpbdbbacaaGreatCJn43
import Derived.Test.YtfemnfpbdbbacaaGreatCLwb
import Derived.Test.YtfemnfpbdbbacaaGreatCDwx
set_option linter.unusedSimpArgs false
set_option linter.unusedVariables false
namespace Go.Proofs.YtfemnfpbdbbacaaGreat
open Go Go.RowKit
def zBLaLeaders1 := PLift.up (And.intro ap (And.intro @bt (And.intro bl (And.intro bw (And.intro a7 (And.intro @if_pos.{1} (And.intro b4 (And.intro @netZ.eq_1 (And.intro @netO.eq_1 (And.intro jbp (And.intro @bne_self_eq_false.{0} (And.intro @beq_self_eq_true.{0} (And.intro @Bool.not_true (And.intro @Bool.not_false (And.intro @Bool.true_beq (And.intro @Bool.false_beq (And.intro @Bool.true_bne (And.intro @Bool.false_bne (And.intro @Bool.not_not (And.intro @bi @trivial))))))))))))))))))))
theorem Fs : type_of% zBLaLeaders1.down := zBLaLeaders1.down
set_option maxRecDepth 8000 in
set_option maxHeartbeats 0 in
theorem Jf (a b : List Int) (hA : jq a) (hB : jq b) : dm Tryz.prog 3 [.c (gd a), .c (gd b)] (fun r => r = [.c (.p (.bool true))]) := by
 refine qy (by simp [Arg.isIo]) Tryz.func3 rfl (by rw [Tryz.ntmps3]; simp) fun w0 => ?_;rw [Tryz.ntmps3];have dX := Fs;simp only [b7, bf, Arg.av, gd];refine ab (dR fun K hK => ?_);(repeat refine eV ?_);refine aa (hK _ (wK [0, 1] ?_));clear hK K;refine ab ?_;refine ab (dR fun K hK => ?_);(repeat refine eV ?_);refine cL rfl ⟨rfl, _, rfl⟩ (by omega) (by first | exact jcj) (jbq a b hA) ?_;rintro _ rfl;(repeat refine eV ?_);refine aa (hK _ (wK [0, 1, 33] ?_));clear hK K;refine dI ?_ ?_<;>intro hb
 ·refine ab (dR fun K hK => ?_);(repeat refine eV ?_);refine aa (hK _ (wK [4] ?_));clear hK K;exact aj (dz Tryz.results3 (.one (.re _ _ (.plain _ _ rfl))) (by decide) rfl)
 ·obtain ⟨hby, hby2⟩ := Wc hb hA hB;refine ah ?_;show DW _ _ _ _ _;refine ab (dR fun K hK => ?_);(repeat refine eV ?_);refine caF rfl ⟨rfl, _, rfl⟩ (by omega) (by first | exact jci) (vf a hby) ?_;rintro _ ⟨N, rfl, htm⟩;(repeat refine eV ?_);refine aa (hK _ (wK [1, 5] ?_));clear hK K;obtain ⟨id, r, k, ok, hI, hS, hok⟩ := V2 N htm;have hidl := htm.ids;refine ab (dR fun K hK => ?_);(repeat refine eV ?_);refine cL rfl ⟨rfl, _, rfl⟩ (by omega) (by first | exact jch) (hI) ?_;rintro _ rfl;(repeat refine eV ?_);refine aa (hK _ (wK [1, 5, 6, 7, 8, 9] ?_));clear hK K;refine ab (dR fun K hK => ?_);(repeat refine eV ?_);refine cL rfl ⟨rfl, _, rfl⟩ (by omega) (by first | exact jcg) (hS) ?_;rintro _ rfl;(repeat refine eV ?_);refine aa (hK _ (wK [1, 5, 6, 7, 8, 9, 10, 11, 12, 13] ?_));clear hK K;refine ab ?_;have dX := And.intro dX (@bne_self_eq_false.{0});refine ab (dR fun K hK => ?_);(repeat refine eV ?_);have dK := @bne_self_eq_false.{0};refine aa (hK _ (az [1, 5, 6, 7, 9, 67] ?_));clear hK K;refine dI ?_ ?_<;>intro hb
  ·cases hb
  ·refine ah ?_;show DW _ _ _ _ _
   cases ok with
   | false =>
    refine ab ?_;refine ab (dR fun K hK => ?_);(repeat refine eV ?_);refine aa (hK _ (wK [1, 5, 6, 7, 68] ?_));clear hK K;refine dI ?_ ?_<;>intro hb
    ·cases hb
    ·refine ah ?_;show DW _ _ _ _ _;refine ab (dR fun K hK => ?_);(repeat refine eV ?_);refine caF rfl ⟨rfl, _, rfl⟩ (by omega) (by first | exact Xc) (l0 b hby2) ?_;rintro _ ⟨B, rfl, htB⟩;(repeat refine eV ?_);refine aa (hK _ (wK [18] ?_));clear hK K;obtain ⟨eb, ok2, d, hI2, hS2, hok2⟩ := M5 B htB;refine ab (dR fun K hK => ?_);(repeat refine eV ?_);refine cL rfl ⟨rfl, _, rfl⟩ (by omega) (by first | exact Du) (hI2) ?_;rintro _ rfl;(repeat refine eV ?_);refine aa (hK _ (wK [18, 19, 20] ?_));clear hK K;refine ab (dR fun K hK => ?_);(repeat refine eV ?_);refine cL rfl ⟨rfl, _, rfl⟩ (by omega) (by first | exact Xb) (hS2) ?_;rintro _ rfl;(repeat refine eV ?_);refine aa (hK _ (wK [18, 19, 20, 21, 22] ?_));clear hK K;refine ab ?_;have dX := And.intro dX (@bne_self_eq_false.{0});refine ab (dR fun K hK => ?_);(repeat refine eV ?_);have dK := @bne_self_eq_false.{0};refine aa (hK _ (az [18, 19, 20, 119] ?_));clear hK K;refine dI ?_ ?_<;>intro hb
     ·cases hb
     ·refine ah ?_;show DW _ _ _ _ _;refine ab ?_
      cases ok2 with
      | false =>
       refine ab (dR fun K hK => ?_);(repeat refine eV ?_);refine aa (hK _ (wK [18, 19, 120] ?_));clear hK K;refine dI ?_ ?_<;>intro hb
       ·cases hb
       ·refine ah ?_;show DW _ _ _ _ _;refine ab (dR fun K hK => ?_);(repeat refine eV ?_);refine aa (hK _ (wK [4] ?_));clear hK K;exact aj (dz Tryz.results3 (.one (.re _ _ (.plain _ _ rfl))) (by decide) rfl)
      | true =>
       obtain ⟨hgB, hcB, hdB, rfl⟩ := hok2 rfl;obtain ⟨hsB, hnB, hidsB, hdgB⟩ := ew hgB;have hQl := y5 (N := B) (cls := cu B d) (K := cd B d);have hel : (sw B d == ((cd B d : Int) == (B.ends.length : Int))) = true := beq_self_eq_true (sw B d);have hel2 : (sw B d != ((cd B d : Int) == (B.ends.length : Int))) = false := bne_self_eq_false (sw B d);have hQe : ((quN B (cu B d) (cd B d)).ends.map (esC 50)).length = cd B d := by rw [List.length_map, hQl]
       refine ab (dR fun K hK => ?_);(repeat refine eV ?_);refine aa (hK _ (wK [18, 19, 120] ?_));clear hK K;refine dI ?_ ?_<;>intro hb
       ·refine ab (dR fun K hK => ?_);(repeat refine eV ?_);refine cL rfl ⟨rfl, _, rfl⟩ (by omega) (by first | exact Xa) (rx NFz B d hgB hdB) ?_;rintro _ rfl;(repeat refine eV ?_);have dK := @netO.eq_1;refine aa (hK _ (az [18, 19, 23, 24] ?_));clear hK K;refine ab ?_;have dX := And.intro dX (And.intro @hQl (And.intro @hel @hel2));refine ab (dR fun K hK => ?_);(repeat refine eV ?_);have dK := And.intro @hQl (And.intro @hel @hel2);refine aa (hK _ (az [18, 138] ?_));clear hK K;refine dI ?_ ?_<;>intro hb
        ·cases hb
        ·refine ah ?_;show DW _ _ _ _ _
         by_cases h40 : 2 * B.ends.length ≤ 40
         ·have hgd := Ig hgB h40;have hok3 : okN (fg B) = fg B := by unfold okN; rw [if_pos hgd]
          have hdc := i7 NFz B hgB;rw [hgd, hok3] at hdc;refine ab (dR fun K hK => ?_);(repeat refine eV ?_);refine cL rfl ⟨rfl, _, rfl⟩ (by omega) (by first | exact Mx) (hdc) ?_;rintro _ rfl;(repeat refine eV ?_);have dK := @netO.eq_1;refine aa (hK _ (az [25, 26] ?_));clear hK K;refine lb 25 [25, 26] (by simp only [ac, pZ, simprocAttr]; exact rfl) ?_;refine ab (dR fun K hK => ?_);(repeat refine eV ?_);refine aa (hK _ (wK [25, 144] ?_));clear hK K;refine dI ?_ ?_<;>intro hb
          ·have hPn := dh hgd;have hPi : (fg B).ids.length ≤ 2097152 := Nat.zero_le _;refine ab (dR fun K hK => ?_);(repeat refine eV ?_);refine cL rfl ⟨rfl, _, rfl⟩ (by omega) (by first | exact W9) (ry NFz (fg B) hgd (show 0 < (fg B).ends.length by omega)) ?_;rintro _ rfl;(repeat refine eV ?_);refine aa (hK _ (wK [25, 27, 28] ?_));clear hK K;obtain hcP | hcP := Bool.eq_false_or_eq_true (em (fg B) 0)
           ·obtain ⟨dP, hdP⟩ := Rd (jb hgd);have hlt := Is hgB dP;have heP : sw (fg B) dP = false := by unfold sw; rw [beq_eq_false_iff_ne]; omega
            have hIP := lf NFz (fg B) dP hgd hcP hdP;rw [heP] at hIP;rw [hcP];refine ab (dR fun K hK => ?_);(repeat refine eV ?_);refine cL rfl ⟨rfl, _, rfl⟩ (by omega) (by first | exact Du) (hIP) ?_;rintro _ rfl;(repeat refine eV ?_);refine aa (hK _ (wK [27, 28, 29, 30] ?_));clear hK K;have dX := And.intro dX (@beq_self_eq_true.{0});refine ab (dR fun K hK => ?_);(repeat refine eV ?_);have dK := @beq_self_eq_true.{0};refine aa (hK _ (az [4] ?_));clear hK K;exact aj (dz Tryz.results3 (.one (.re _ _ (.plain _ _ rfl))) (by decide) rfl)
           ·have hIP := jv NFz (fg B) hPi (by rw [hcP, Bool.and_false]);rw [hcP];refine ab (dR fun K hK => ?_);(repeat refine eV ?_);refine cL rfl ⟨rfl, _, rfl⟩ (by omega) (by first | exact Du) (hIP) ?_;rintro _ rfl;(repeat refine eV ?_);refine aa (hK _ (wK [27, 28, 29, 30] ?_));clear hK K;have dX := And.intro dX (@beq_self_eq_true.{0});refine ab (dR fun K hK => ?_);(repeat refine eV ?_);have dK := @beq_self_eq_true.{0};refine aa (hK _ (az [4] ?_));clear hK K;exact aj (dz Tryz.results3 (.one (.re _ _ (.plain _ _ rfl))) (by decide) rfl)
          ·cases hb
         ·have hgd : bb (fg B) = false := by
           rw [Bool.eq_false_iff];intro h;have h1 := dh h;have h2 := pu B;omega
          have hok3 : okN (fg B) = Vi := by unfold okN; rw [if_neg (by rw [hgd]; decide)]
          have hdc := i7 NFz B hgB;rw [hgd, hok3] at hdc;refine ab (dR fun K hK => ?_);(repeat refine eV ?_);refine cL rfl ⟨rfl, _, rfl⟩ (by omega) (by first | exact Mx) (hdc) ?_;rintro _ rfl;(repeat refine eV ?_);have dK := @netO.eq_1;refine aa (hK _ (az [25, 26] ?_));clear hK K;refine ab (dR fun K hK => ?_);(repeat refine eV ?_);refine aa (hK _ (wK [25, 144] ?_));clear hK K;refine dI ?_ ?_<;>intro hb
          ·cases hb
          ·refine ah ?_;show DW _ _ _ _ _;refine ab (dR fun K hK => ?_);(repeat refine eV ?_);refine aa (hK _ (wK [4] ?_));clear hK K;exact aj (dz Tryz.results3 (.one (.re _ _ (.plain _ _ rfl))) (by decide) rfl)
       ·cases hb
   | true =>
    obtain ⟨hg, hc, hle, hmem, hrd⟩ := hok rfl;obtain ⟨hs, hn, hids, hdg⟩ := ew hg;have hcon : Cx N = true := by unfold Cx; rw [hg, hc]; rfl
    have hDm := Gb NFz N hids;rw [hcon, if_pos rfl] at hDm;have hD0 := Fe (j4 N)
    have hD1 : mx0 (j4 N) < N.ends.length := by
     rcases Ff (j4 N) with h | h
     ·omega
     ·exact (Tf hs h).2
    obtain ⟨D, hD⟩ : ∃ D, D = mx0 (j4 N) := ⟨_, rfl⟩;rw [← hD] at hDm hD0 hD1 hrd;have hhas : decide (id ∈ N.ids) = true := decide_eq_true hmem;have hgt : decide ((r : Int) > D + 1) = false := decide_eq_false (by omega);refine ab ?_;refine ab (dR fun K hK => ?_);(repeat refine eV ?_);refine aa (hK _ (wK [1, 5, 6, 7, 68] ?_));clear hK K;refine dI ?_ ?_<;>intro hb
    ·refine ab ?_;refine ab (dR fun K hK => ?_);(repeat refine eV ?_);refine aa (hK _ (wK [1, 5, 6, 7, 70, 71, 72] ?_));clear hK K;refine ae ?_;refine au (X := Nat) (fun j => j ≤ N.ids.length) (fun j => [(72, .c (.p (.int .i64 j)))]) (fun j => []) (fun j => N.ids.length - j) 0 (Nat.zero_le _) (by first | rfl | (simp only [ac, pZ, simprocAttr, Int.natCast_zero] <;> rfl)) ?_;rintro j hj;intro E hE;simp only [ac, pZ, simprocAttr] at hE;subst hE;refine ab (dR fun K hK => ?_);(repeat refine eV ?_);refine aa (hK _ (wK [1, 5, 6, 7, 70, 71, 72, 73] ?_));clear hK K;refine ab (dI (fun hb => ?_) (fun hb => ?_))
     ·have hj1 : j < N.ids.length := by simpa using hb
      have hlj : decide (gi N.ids j < id) = false := decide_eq_false (by have := hle j hj1; omega);refine ah ?_;show DW _ _ _ _ _;refine ab (ae ?_);have dX := And.intro dX (@Int.toNat_natCast);refine ab (dR fun K hK => ?_);(repeat refine eV ?_);refine aa (hK _ (wK [1, 5, 6, 7, 15, 70, 71, 72] ?_));clear hK K;have dX := And.intro dX (@hlj);refine ab (dR fun K hK => ?_);(repeat refine eV ?_);have dK := @hlj;refine aa (hK _ (az [1, 5, 6, 7, 70, 71, 72, 78] ?_));clear hK K;refine dI ?_ ?_<;>intro hb
      ·cases hb
      ·refine ah ?_;show DW _ _ _ _ _;refine dR fun K hK => ?_;(repeat refine eV ?_);have dK := @bp;refine aa (hK _ ?_);clear hK K;show ∃ x, _ ∧ _ ∧ Weak _ _;refine ⟨j + 1, ?_, ?_, a6 [1, 5, 6, 7, 70, 71, 72]⟩
       ·omega
       ·omega
     ·refine an ?_;refine wK [1, 5, 6, 7] ?_;refine ab (dR fun K hK => ?_);(repeat refine eV ?_);refine cL rfl ⟨rfl, _, rfl⟩ (by omega) (by first | exact jcf) (hDm) ?_;rintro _ rfl;(repeat refine eV ?_);refine aa (hK _ (wK [1, 5, 6, 7, 16, 17] ?_));clear hK K;refine ab (dR fun K hK => ?_);(repeat refine eV ?_);refine cL rfl ⟨rfl, _, rfl⟩ (by omega) (by first | exact jce) (Ya false 3 N.ids id (by omega)) ?_;rintro _ rfl;(repeat refine eV ?_);have dX := And.intro dX (And.intro @hhas @hgt);(repeat refine eV ?_);have dK := And.intro @hhas @hgt;refine aa (hK _ (az [1, 99] ?_));clear hK K;refine dI ?_ ?_<;>intro hb
      ·cases hb
      ·refine ah ?_;show DW _ _ _ _ _;refine ab (dR fun K hK => ?_);(repeat refine eV ?_);refine caF rfl ⟨rfl, _, rfl⟩ (by omega) (by first | exact Xc) (l0 b hby2) ?_;rintro _ ⟨B, rfl, htB⟩;(repeat refine eV ?_);refine aa (hK _ (wK [18] ?_));clear hK K;obtain ⟨eb, ok2, d, hI2, hS2, hok2⟩ := M5 B htB;refine ab (dR fun K hK => ?_);(repeat refine eV ?_);refine cL rfl ⟨rfl, _, rfl⟩ (by omega) (by first | exact Du) (hI2) ?_;rintro _ rfl;(repeat refine eV ?_);refine aa (hK _ (wK [18, 19, 20] ?_));clear hK K;refine ab (dR fun K hK => ?_);(repeat refine eV ?_);refine cL rfl ⟨rfl, _, rfl⟩ (by omega) (by first | exact Xb) (hS2) ?_;rintro _ rfl;(repeat refine eV ?_);refine aa (hK _ (wK [18, 19, 20, 21, 22] ?_));clear hK K;refine ab ?_;have dX := And.intro dX (@bne_self_eq_false.{0});refine ab (dR fun K hK => ?_);(repeat refine eV ?_);have dK := @bne_self_eq_false.{0};refine aa (hK _ (az [18, 19, 20, 119] ?_));clear hK K;refine dI ?_ ?_<;>intro hb
       ·cases hb
       ·refine ah ?_;show DW _ _ _ _ _;refine ab ?_
        cases ok2 with
        | false =>
         refine ab (dR fun K hK => ?_);(repeat refine eV ?_);refine aa (hK _ (wK [18, 19, 120] ?_));clear hK K;refine dI ?_ ?_<;>intro hb
         ·cases hb
         ·refine ah ?_;show DW _ _ _ _ _;refine ab (dR fun K hK => ?_);(repeat refine eV ?_);refine aa (hK _ (wK [4] ?_));clear hK K;exact aj (dz Tryz.results3 (.one (.re _ _ (.plain _ _ rfl))) (by decide) rfl)
        | true =>
         obtain ⟨hgB, hcB, hdB, rfl⟩ := hok2 rfl;obtain ⟨hsB, hnB, hidsB, hdgB⟩ := ew hgB;have hQl := y5 (N := B) (cls := cu B d) (K := cd B d);have hel : (sw B d == ((cd B d : Int) == (B.ends.length : Int))) = true := beq_self_eq_true (sw B d);have hel2 : (sw B d != ((cd B d : Int) == (B.ends.length : Int))) = false := bne_self_eq_false (sw B d);have hQe : ((quN B (cu B d) (cd B d)).ends.map (esC 50)).length = cd B d := by rw [List.length_map, hQl]
         refine ab (dR fun K hK => ?_);(repeat refine eV ?_);refine aa (hK _ (wK [18, 19, 120] ?_));clear hK K;refine dI ?_ ?_<;>intro hb
         ·refine ab (dR fun K hK => ?_);(repeat refine eV ?_);refine cL rfl ⟨rfl, _, rfl⟩ (by omega) (by first | exact Xa) (rx NFz B d hgB hdB) ?_;rintro _ rfl;(repeat refine eV ?_);have dK := @netO.eq_1;refine aa (hK _ (az [18, 19, 23, 24] ?_));clear hK K;refine ab ?_;have dX := And.intro dX (And.intro @hQl (And.intro @hel @hel2));refine ab (dR fun K hK => ?_);(repeat refine eV ?_);have dK := And.intro @hQl (And.intro @hel @hel2);refine aa (hK _ (az [18, 138] ?_));clear hK K;refine dI ?_ ?_<;>intro hb
          ·cases hb
          ·refine ah ?_;show DW _ _ _ _ _
           by_cases h40 : 2 * B.ends.length ≤ 40
           ·have hgd := Ig hgB h40;have hok3 : okN (fg B) = fg B := by unfold okN; rw [if_pos hgd]
            have hdc := i7 NFz B hgB;rw [hgd, hok3] at hdc;refine ab (dR fun K hK => ?_);(repeat refine eV ?_);refine cL rfl ⟨rfl, _, rfl⟩ (by omega) (by first | exact Mx) (hdc) ?_;rintro _ rfl;(repeat refine eV ?_);have dK := @netO.eq_1;refine aa (hK _ (az [25, 26] ?_));clear hK K;refine lb 25 [25, 26] (by simp only [ac, pZ, simprocAttr]; exact rfl) ?_;refine ab (dR fun K hK => ?_);(repeat refine eV ?_);refine aa (hK _ (wK [25, 144] ?_));clear hK K;refine dI ?_ ?_<;>intro hb
            ·have hPn := dh hgd;have hPi : (fg B).ids.length ≤ 2097152 := Nat.zero_le _;refine ab (dR fun K hK => ?_);(repeat refine eV ?_);refine cL rfl ⟨rfl, _, rfl⟩ (by omega) (by first | exact W9) (ry NFz (fg B) hgd (show 0 < (fg B).ends.length by omega)) ?_;rintro _ rfl;(repeat refine eV ?_);refine aa (hK _ (wK [25, 27, 28] ?_));clear hK K;obtain hcP | hcP := Bool.eq_false_or_eq_true (em (fg B) 0)
             ·obtain ⟨dP, hdP⟩ := Rd (jb hgd);have hlt := Is hgB dP;have heP : sw (fg B) dP = false := by unfold sw; rw [beq_eq_false_iff_ne]; omega
              have hIP := lf NFz (fg B) dP hgd hcP hdP;rw [heP] at hIP;rw [hcP];refine ab (dR fun K hK => ?_);(repeat refine eV ?_);refine cL rfl ⟨rfl, _, rfl⟩ (by omega) (by first | exact Du) (hIP) ?_;rintro _ rfl;(repeat refine eV ?_);refine aa (hK _ (wK [27, 28, 29, 30] ?_));clear hK K;have dX := And.intro dX (@beq_self_eq_true.{0});refine ab (dR fun K hK => ?_);(repeat refine eV ?_);have dK := @beq_self_eq_true.{0};refine aa (hK _ (az [4] ?_));clear hK K;exact aj (dz Tryz.results3 (.one (.re _ _ (.plain _ _ rfl))) (by decide) rfl)
             ·have hIP := jv NFz (fg B) hPi (by rw [hcP, Bool.and_false]);rw [hcP];refine ab (dR fun K hK => ?_);(repeat refine eV ?_);refine cL rfl ⟨rfl, _, rfl⟩ (by omega) (by first | exact Du) (hIP) ?_;rintro _ rfl;(repeat refine eV ?_);refine aa (hK _ (wK [27, 28, 29, 30] ?_));clear hK K;have dX := And.intro dX (@beq_self_eq_true.{0});refine ab (dR fun K hK => ?_);(repeat refine eV ?_);have dK := @beq_self_eq_true.{0};refine aa (hK _ (az [4] ?_));clear hK K;exact aj (dz Tryz.results3 (.one (.re _ _ (.plain _ _ rfl))) (by decide) rfl)
            ·cases hb
           ·have hgd : bb (fg B) = false := by
             rw [Bool.eq_false_iff];intro h;have h1 := dh h;have h2 := pu B;omega
            have hok3 : okN (fg B) = Vi := by unfold okN; rw [if_neg (by rw [hgd]; decide)]
            have hdc := i7 NFz B hgB;rw [hgd, hok3] at hdc;refine ab (dR fun K hK => ?_);(repeat refine eV ?_);refine cL rfl ⟨rfl, _, rfl⟩ (by omega) (by first | exact Mx) (hdc) ?_;rintro _ rfl;(repeat refine eV ?_);have dK := @netO.eq_1;refine aa (hK _ (az [25, 26] ?_));clear hK K;refine ab (dR fun K hK => ?_);(repeat refine eV ?_);refine aa (hK _ (wK [25, 144] ?_));clear hK K;refine dI ?_ ?_<;>intro hb
            ·cases hb
            ·refine ah ?_;show DW _ _ _ _ _;refine ab (dR fun K hK => ?_);(repeat refine eV ?_);refine aa (hK _ (wK [4] ?_));clear hK K;exact aj (dz Tryz.results3 (.one (.re _ _ (.plain _ _ rfl))) (by decide) rfl)
         ·cases hb
    ·cases hb
theorem Kj (v0 v1 : Value) (L0 L1 : Nat) (w : World) (h0 : Jg w v0 L0) (h1 : Jg w v1 L1) : Calls Tryz.prog 3 #[v0, v1] w (rf w (.bool true)) := Yh (fun a b hA hB => Jf a b hA hB) h0 h1
end Go.Proofs.YtfemnfpbdbbacaaGreat
