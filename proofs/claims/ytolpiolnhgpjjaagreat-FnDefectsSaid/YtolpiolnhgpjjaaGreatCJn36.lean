/- Parts of the proof. -/
import Derived.Test.YtolpiolnhgpjjaaGreatCDbf
import Derived.Test.YtolpiolnhgpjjaaGreatCJn9
import Derived.Test.YtolpiolnhgpjjaaGreatCDpg
import Derived.Test.YtolpiolnhgpjjaaGreatCJn28
import Derived.Test.YtolpiolnhgpjjaaGreatCMtr2
import Derived.Test.YtolpiolnhgpjjaaGreatCJn22
import Derived.Test.YtolpiolnhgpjjaaGreatCPwp
import Derived.Test.YtolpiolnhgpjjaaGreatCJn26
import Derived.Test.YtolpiolnhgpjjaaGreatCJn24
import Derived.Test.YtolpiolnhgpjjaaGreatCJn19
import Derived.Test.YtolpiolnhgpjjaaGreatCShelf
import Derived.Test.YtolpiolnhgpjjaaGreatCJn27
import Derived.Test.YtolpiolnhgpjjaaGreatCDt
set_option linter.unusedSimpArgs false
set_option linter.unusedVariables false
namespace Go.Proofs.YtolpiolnhgpjjaaGreat
section
open Go Go.RowKit
theorem b0 {N : Net} (hg : bn N = true) : Sym N.ends ∧ (1 ≤ N.ends.length ∧ N.ends.length ≤ 40) ∧ N.ids.length ≤ 2097152 ∧ ∀ a, (gl N.ends a).length ≤ 1000 := by
 have hn := Du hg;refine ⟨(Fu hg).sym, hn, by have := Mm hg; omega, fun a => ?_⟩
 rcases Nat.lt_or_ge a N.ends.length with h | h
 ·have := Mn hg h; omega
 ·have : gl N.ends a = [] := by unfold gl; rw [List.getD_eq_getElem?_getD, List.getElem?_eq_none h]; rfl
  rw [this]; simp
end
section
set_option maxHeartbeats 0
set_option maxRecDepth 8000
open Go Go.RowKit
theorem uo (o : Bool) (t : TypeId) (xs : List Int) (n : Nat) (hn : n ≤ 1048576) : DCalls Tryz.prog 63 [.c (.sl o t 1 (xs.map iC)), .c (.p (.int .i64 n))] (fun r => r = [.c (.p (.bool (tz xs n)))]) := jj fun w vs h1 h2 => by
 obtain ⟨u, v, rfl, g1, g2⟩ := Qg h1 h2;rw [uu g2];exact qo u xs n w (nz g1) hn
def zBDgc1 := PLift.up (And.intro aq (And.intro bp (And.intro cr (And.intro b6 (And.intro bl (And.intro @if_pos.{1} (And.intro @cl (And.intro bt (And.intro @di (And.intro @dq (And.intro @bw (And.intro @ca (And.intro @ck @trivial)))))))))))))
theorem Mx : type_of% zBDgc1.down := zBDgc1.down
theorem Sp (f : NF) (N : Net) (o : Bool) (t : TypeId) (xs : List Int) (hg : bn N = true) (hp : tz xs N.ends.length = true) : DCalls Tryz.prog 91 [.agg (bj f N), .c (.sl o t 1 (xs.map iC))] (fun r => r = [.c (.p (.bool true))]) := by
 obtain ⟨hs, hn, hids, hdg⟩ := b0 hg;refine am Tryz.func91 rfl (by rw [Tryz.ntmps91]; simp) fun w0 => ?_;rw [Tryz.ntmps91];have dX := Mx;simp only [bq, bb, Arg.av, bj, bv, ints, ends];refine ab (dR fun K hK => ?_);(repeat refine eV ?_);refine aa (hK _ (wK [1, 2] ?_));clear hK K;refine ab (dR fun K hK => ?_);(repeat refine eV ?_);refine cL rfl ⟨rfl, _, rfl⟩ (by omega) (by first | exact jc | exact Qd) (d7 ⟨false, f.t1, f.o2, f.t2, false, f.t3, false, f.t4⟩ N hids) ?_;rintro _ rfl;(repeat refine eV ?_);have dX := And.intro dX (@hg);(repeat refine eV ?_);have dX := And.intro dX (@hg);refine cgF rfl rfl ⟨rfl, _, rfl⟩ (by omega) (by first | exact jc | exact Qd) (uo o t xs N.ends.length (by omega)) ?_;rintro _ rfl;(repeat refine eV ?_);have dX := And.intro dX (And.intro @hg @hp);(repeat refine eV ?_);have dK := And.intro @hg @hp;refine aa (hK _ (a7 [4] ?_));clear hK K;exact aj (al Tryz.results91 (.one (.plain _ _ rfl)) (by decide) rfl)
theorem r8 (N : Net) (v : Nat) : eu N v (gl N.ends v).length = (gl N.ends v).map Prod.fst := by simp [eu]
theorem Q5 (f : NF) (N : Net) (v : Nat) (o : Bool) (t : TypeId) (out : List Int) (hg : bn N = true) (hv : v < N.ends.length) (ho : out.length = N.ends.length) : DCalls Tryz.prog 110 [.agg (bj f N), .c (.p (.int .i64 v)), .c (.sl o t 1 (out.map iC))] (fun r => r = [.own false [.sl true 3 1 ((atL out ((gl N.ends v).map Prod.fst)).map iC)]]) := by
 obtain ⟨hs, hn, hids, hdg⟩ := b0 hg;have hd := hdg v;refine am Tryz.func110 rfl (by rw [Tryz.ntmps110]; simp) fun w0 => ?_;rw [Tryz.ntmps110];have dX := Mx;simp only [bq, bb, Arg.av, bj, bv, ints, ends];refine ab (dR fun K hK => ?_);(repeat refine eV ?_);refine aa (hK _ (wK [1, 2, 3] ?_));clear hK K;refine ab (dR fun K hK => ?_);(repeat refine eV ?_);refine aa (hK _ (wK [1, 2, 3, 7] ?_));clear hK K;refine ab ?_;have dX := And.intro dX (@Int.toNat_natCast);refine ab (dR fun K hK => ?_);(repeat refine eV ?_);refine aa (hK _ (wK [2, 7, 14, 15, 16] ?_));clear hK K;refine ah ?_;refine fu 7 3 1 (by decide) (by simp only [ac, pZ, simprocAttr]) [2, 7, 14, 15, 16] (by simp only [ac, pZ, simprocAttr]; exact rfl) ?_;refine ax (X := Nat) (fun k => k ≤ (gl N.ends v).length) (fun k => [(16, .c (.p (.int .i64 k)))]) (fun k => [((7, 0), ⟨none, [.sl true 3 1 ((atL out (eu N v k)).map iC)]⟩)]) (fun k => (gl N.ends v).length - k) 0 (Nat.zero_le _) (by first | rfl | (simp only [ac, pZ, simprocAttr, Int.natCast_zero] <;> rfl)) ?_;rintro k hk;intro E hE;simp only [ac, pZ, simprocAttr] at hE;subst hE;have hnl : (atL out (eu N v k)).length = k := by rw [Ig, wx hk]
 refine ab (dR fun K hK => ?_);(repeat refine eV ?_);refine aa (hK _ (wK [2, 7, 14, 15, 16, 17] ?_));clear hK K;refine ab (dI (fun hb => ?_) (fun hb => ?_))
 ·have hk1 : k < (gl N.ends v).length := by simpa using hb
  have hgp : (gp (gl N.ends v) k).1 = ((nd N v k : Nat) : Int) := by rw [(rm hs hv hk1).2.2.2.2]
  have hxl := (rm hs hv hk1).1;have hns : atL out (eu N v (k + 1)) = atL out (eu N v k) ++ [gi out (nd N v k)] := by rw [zp hk1, Nf, hgp, Int.toNat_natCast]
  refine af ?_;show DW _ _ _ _ _;refine ab (ah ?_);have dX := And.intro dX (@hgp);refine ab (dR fun K hK => ?_);(repeat refine eV ?_);have dK := @hgp;refine aa (hK _ (a7 [2, 7, 9, 14, 15, 16] ?_));clear hK K;have dX := And.intro dX (And.intro @Int.toNat_natCast @hgp);refine dR fun K hK => ?_;(repeat refine eV ?_);have dK := And.intro @gd @hgp;refine aa (hK _ (a7 [2, 7, 14, 15, 16] ?_));clear hK K;refine dR fun K hK => ?_;(repeat refine eV ?_);have dK := And.intro @bu @hns;refine aa (hK _ ?_);clear hK K;show ∃ x, _ ∧ _ ∧ Weak _ _;refine ⟨k + 1, ?_, ?_, ay [2, 7, 14, 15, 16]⟩
  ·omega
  ·omega
 ·have hk2 : k = (gl N.ends v).length := by
   have : ¬ k < (gl N.ends v).length := by simpa using hb
   omega
  refine ao ?_;refine ba [7] (by simp only [ac, pZ, simprocAttr]; exact rfl) ?_;refine ab (dR fun K hK => ?_);(repeat refine eV ?_);refine aa (hK _ (wK [6] ?_));clear hK K;exact aj (al Tryz.results110 (.one (.own _ _ _ _ rfl rfl (own1 (bo _ _)))) (by decide) (by rw [hk2, r8]))
end
section
set_option maxHeartbeats 0
set_option maxRecDepth 8000
open Go Go.RowKit
def qC (e : Int × Int × Int × Int) : List C := [.p (.int .i64 e.1), .p (.int .i64 e.2.1), .p (.int .i64 e.2.2.1), .p (.int .i64 e.2.2.2)]
def gq (L : List (Int × Int × Int × Int)) (k : Nat) : Int × Int × Int × Int := L.getD k (0, 0, 0, 0)
theorem qu {L : List (Int × Int × Int × Int)} {k : Nat} (h : k < L.length) : gq L k = L[k] := by simp [gq, h]
theorem G2 (xs : List (Int × Int × Int × Int)) (a b c d : Int) : xs.map qC ++ [[C.p (.int .i64 a), C.p (.int .i64 b), C.p (.int .i64 c), C.p (.int .i64 d)]] = (xs ++ [(a, b, c, d)]).map qC := by simp [qC]
theorem mo {L : List (Int × Int × Int × Int)} {k : Nat} (h : k < L.length) : (L.map qC).getD k [] = [.p (.int .i64 (gq L k).1), .p (.int .i64 (gq L k).2.1), .p (.int .i64 (gq L k).2.2.1), .p (.int .i64 (gq L k).2.2.2)] := by
 rw [List.getD_eq_getElem?_getD, List.getElem?_map, List.getElem?_eq_getElem h, qu h]; rfl
theorem Ll (t : TypeId) (L : List (Int × Int × Int × Int)) : (C.sl true t 4 (L.map qC)).owned := mg fun r hr c hc => by
 obtain ⟨e, -, rfl⟩ := List.mem_map.1 hr;simp only [qC, List.mem_cons, List.not_mem_nil, or_false] at hc
 rcases hc with rfl | rfl | rfl | rfl <;> exact Bh _
def edP (N : Net) (k i : Nat) : Bool := decide ((k : Int) < (gp (gl N.ends k) i).1) || (((k : Int) == (gp (gl N.ends k) i).1) && decide ((i : Int) ≤ (gp (gl N.ends k) i).2))
def edN (N : Net) (k : Nat) : Nat → List (Int × Int × Int × Int)
 | 0 => []
 | i + 1 => if edP N k i = true then edN N k i ++ [((k : Int), (i : Int), (gp (gl N.ends k) i).1, (gp (gl N.ends k) i).2)] else edN N k i
def edL (N : Net) : Nat → List (Int × Int × Int × Int)
 | 0 => []
 | k + 1 => edL N k ++ edN N k (gl N.ends k).length
theorem B1 (N : Net) (k : Nat) : ∀ i, (edN N k i).length ≤ i
 | 0 => Nat.le_refl _
 | i + 1 => by
  have := B1 N k i;rw [edN];split
  ·simp; omega
  ·omega
theorem vh (N : Net) (hd : ∀ a, (gl N.ends a).length ≤ 1000) : ∀ k, (edL N k).length ≤ k * 1000
 | 0 => by simp [edL]
 | k + 1 => by
  have h1 := vh N hd k;have h2 := B1 N k (gl N.ends k).length;have h3 := hd k;rw [edL, List.length_append];omega
theorem B0 {N : Net} {k : Nat} : ∀ {i : Nat} {e : Int × Int × Int × Int}, e ∈ edN N k i → ∃ j, j < i ∧ edP N k j = true ∧ e = ((k : Int), (j : Int), (gp (gl N.ends k) j).1, (gp (gl N.ends k) j).2)
 | 0, e, h => by cases h
 | i + 1, e, h => by
  rw [edN] at h;split at h
  ·rename_i hp
   rcases List.mem_append.1 h with h | h
   ·obtain ⟨j, h1, h2⟩ := B0 h; exact ⟨j, by omega, h2⟩
   ·exact ⟨i, by omega, hp, by simpa using h⟩
  ·obtain ⟨j, h1, h2⟩ := B0 h; exact ⟨j, by omega, h2⟩
theorem qv {N : Net} : ∀ {n : Nat} {e : Int × Int × Int × Int}, e ∈ edL N n → ∃ k j, k < n ∧ j < (gl N.ends k).length ∧ edP N k j = true ∧ e = ((k : Int), (j : Int), (gp (gl N.ends k) j).1, (gp (gl N.ends k) j).2)
 | 0, e, h => by cases h
 | n + 1, e, h => by
  rw [edL] at h
  rcases List.mem_append.1 h with h | h
  ·obtain ⟨k, j, h1, h2⟩ := qv h; exact ⟨k, j, by omega, h2⟩
  ·obtain ⟨j, h1, h2⟩ := B0 h; exact ⟨n, j, by omega, h1, h2⟩
def zBDeq1 := PLift.up (And.intro aq (And.intro bp (And.intro cr (And.intro b6 (And.intro bl (And.intro @if_pos.{1} (And.intro @cl (And.intro bt (And.intro @di (And.intro @dq (And.intro @bw (And.intro @ca (And.intro @ck (And.intro ff (And.intro fg (And.intro @mo @trivial))))))))))))))))
theorem su : type_of% zBDeq1.down := zBDeq1.down
theorem Bz (f : NF) (N : Net) (hn : N.ends.length ≤ 1000) (hdg : ∀ a, (gl N.ends a).length ≤ 1000) : DCalls Tryz.prog 76 [.agg (bj f N)] (fun r => r = [.own false [.sl true 78 4 ((edL N N.ends.length).map qC)]]) := by
 refine am Tryz.func76 rfl (by rw [Tryz.ntmps76]; simp) fun w0 => ?_;rw [Tryz.ntmps76];have dX := su;simp only [bq, bb, Arg.av, bj, bv, ints, ends];refine ab (dR fun K hK => ?_);(repeat refine eV ?_);refine aa (hK _ (wK [1] ?_));clear hK K;refine ab (dR fun K hK => ?_);(repeat refine eV ?_);refine aa (hK _ (wK [1, 3] ?_));clear hK K;refine ab ?_;refine ab (dR fun K hK => ?_);(repeat refine eV ?_);refine aa (hK _ (wK [3, 9, 10, 11] ?_));clear hK K;refine ah ?_;refine fu 3 78 4 (by decide) (by simp only [ac, pZ, simprocAttr]) [3, 9, 10, 11] (by simp only [ac, pZ, simprocAttr]; exact rfl) ?_;refine ax (X := Nat) (fun k => k ≤ N.ends.length) (fun k => [(11, .c (.p (.int .i64 k)))]) (fun k => [((3, 0), ⟨none, [.sl true 78 4 ((edL N k).map qC)]⟩)]) (fun k => N.ends.length - k) 0 (Nat.zero_le _) (by first | rfl | (simp only [ac, pZ, simprocAttr, Int.natCast_zero] <;> rfl)) ?_;rintro k hk;intro E hE;simp only [ac, pZ, simprocAttr] at hE;subst hE;refine ab (dR fun K hK => ?_);(repeat refine eV ?_);refine aa (hK _ (wK [3, 9, 10, 11, 12] ?_));clear hK K;refine ab (dI (fun hb => ?_) (fun hb => ?_))
 ·have hk1 : k < N.ends.length := by simpa using hb
  have hdk := hdg k;have hel := vh N hdg k;have hk3 : k * 1000 ≤ 1000 * 1000 := Nat.mul_le_mul_right _ (by omega);refine af ?_;show DW _ _ _ _ _;refine ab (ah ?_);have dX := And.intro dX (@Int.toNat_natCast);refine ab (dR fun K hK => ?_);(repeat refine eV ?_);refine aa (hK _ (wK [3, 4, 5, 9, 10, 11] ?_));clear hK K;refine ab (dR fun K hK => ?_);(repeat refine eV ?_);refine aa (hK _ (wK [3, 4, 9, 10, 11, 16, 17, 18] ?_));clear hK K;refine ah ?_;refine ax (X := Nat) (fun i => i ≤ (gl N.ends k).length) (fun i => [(18, .c (.p (.int .i64 i)))]) (fun i => [((3, 0), ⟨none, [.sl true 78 4 ((edL N k ++ edN N k i).map qC)]⟩)]) (fun i => (gl N.ends k).length - i) 0 (Nat.zero_le _) (by first | rfl | (simp only [ac, pZ, simprocAttr, Int.natCast_zero, edN, List.append_nil] <;> rfl)) ?_;rintro i hi;intro E hE;simp only [ac, pZ, simprocAttr] at hE;subst hE;have hnl := B1 N k i;have hll : (edL N k ++ edN N k i).length ≤ 1000 * 1000 + 1000 := by rw [List.length_append]; omega
  refine ab (dR fun K hK => ?_);(repeat refine eV ?_);refine aa (hK _ (wK [3, 4, 9, 10, 11, 16, 17, 18, 19] ?_));clear hK K;refine ab (dI (fun hb => ?_) (fun hb => ?_))
  ·have hi1 : i < (gl N.ends k).length := by simpa using hb
   have hyes : edP N k i = true → edL N k ++ edN N k (i + 1) = (edL N k ++ edN N k i) ++ [((k : Int), (i : Int), (gp (gl N.ends k) i).1, (gp (gl N.ends k) i).2)] := fun h => by rw [edN, if_pos h, List.append_assoc]
   have hno : edP N k i = false → edL N k ++ edN N k (i + 1) = edL N k ++ edN N k i := fun h => by rw [edN, if_neg (by rw [h]; decide)]
   refine af ?_;show DW _ _ _ _ _;refine ab (ah ?_);refine ab (dR fun K hK => ?_);(repeat refine eV ?_);refine aa (hK _ (wK [3, 4, 6, 7, 9, 10, 11, 16, 17, 18] ?_));clear hK K;obtain h1 | h1 := Bool.eq_false_or_eq_true (decide ((k : Int) < (gp (gl N.ends k) i).1))
   ·have hm := hyes (by unfold edP; rw [h1]; rfl);have dX := And.intro dX (@h1);refine ab (dR fun K hK => ?_);(repeat refine eV ?_);have dK := @h1;refine aa (hK _ (a7 [3, 4, 6, 7, 9, 10, 11, 16, 17, 18, 38] ?_));clear hK K;refine dI ?_ ?_<;>intro hb
    ·refine dR fun K hK => ?_;(repeat refine eV ?_);have dK := @G2;refine aa (hK _ (a7 [3, 4, 9, 10, 11, 16, 17, 18] ?_));clear hK K;refine dR fun K hK => ?_;(repeat refine eV ?_);have dK := And.intro @bu @hm;refine aa (hK _ ?_);clear hK K;show ∃ x, _ ∧ _ ∧ Weak _ _;refine ⟨i + 1, ?_, ?_, ay [3, 4, 9, 10, 11, 16, 17, 18]⟩
     ·omega
     ·omega
    ·cases hb
   ·obtain h2 | h2 := Bool.eq_false_or_eq_true ((k : Int) == (gp (gl N.ends k) i).1)
    ·obtain h3 | h3 := Bool.eq_false_or_eq_true (decide ((i : Int) ≤ (gp (gl N.ends k) i).2))
     ·have hm := hyes (by unfold edP; rw [h1, h2, h3]; rfl);have dX := And.intro dX (And.intro @h1 (And.intro @h2 @h3));refine ab (dR fun K hK => ?_);(repeat refine eV ?_);have dK := And.intro @h1 (And.intro @h2 @h3);refine aa (hK _ (a7 [3, 4, 6, 7, 9, 10, 11, 16, 17, 18, 38] ?_));clear hK K;refine dI ?_ ?_<;>intro hb
      ·refine dR fun K hK => ?_;(repeat refine eV ?_);have dK := @G2;refine aa (hK _ (a7 [3, 4, 9, 10, 11, 16, 17, 18] ?_));clear hK K;refine dR fun K hK => ?_;(repeat refine eV ?_);have dK := And.intro @bu @hm;refine aa (hK _ ?_);clear hK K;show ∃ x, _ ∧ _ ∧ Weak _ _;refine ⟨i + 1, ?_, ?_, ay [3, 4, 9, 10, 11, 16, 17, 18]⟩
       ·omega
       ·omega
      ·cases hb
     ·have hm := hno (by unfold edP; rw [h1, h2, h3]; rfl);have dX := And.intro dX (And.intro @h1 (And.intro @h2 @h3));refine ab (dR fun K hK => ?_);(repeat refine eV ?_);have dK := And.intro @h1 (And.intro @h2 @h3);refine aa (hK _ (a7 [3, 4, 6, 7, 9, 10, 11, 16, 17, 18, 38] ?_));clear hK K;refine dI ?_ ?_<;>intro hb
      ·cases hb
      ·refine af ?_;show DW _ _ _ _ _;refine dR fun K hK => ?_;(repeat refine eV ?_);have dK := And.intro @bu @hm;refine aa (hK _ ?_);clear hK K;show ∃ x, _ ∧ _ ∧ Weak _ _;refine ⟨i + 1, ?_, ?_, ay [3, 4, 9, 10, 11, 16, 17, 18]⟩
       ·omega
       ·omega
    ·have hm := hno (by unfold edP; rw [h1, h2]; rfl);have dX := And.intro dX (And.intro @h1 @h2);refine ab (dR fun K hK => ?_);(repeat refine eV ?_);have dK := And.intro @h1 @h2;refine aa (hK _ (a7 [3, 4, 6, 7, 9, 10, 11, 16, 17, 18, 38] ?_));clear hK K;refine dI ?_ ?_<;>intro hb
     ·cases hb
     ·refine af ?_;show DW _ _ _ _ _;refine dR fun K hK => ?_;(repeat refine eV ?_);have dK := And.intro @bu @hm;refine aa (hK _ ?_);clear hK K;show ∃ x, _ ∧ _ ∧ Weak _ _;refine ⟨i + 1, ?_, ?_, ay [3, 4, 9, 10, 11, 16, 17, 18]⟩
      ·omega
      ·omega
  ·have hi2 : i = (gl N.ends k).length := by
    have : ¬ i < (gl N.ends k).length := by simpa using hb
    omega
   have hm : edL N (k + 1) = edL N k ++ edN N k i := by rw [hi2]; rfl
   refine ao ?_;refine ba [3, 9, 10, 11] (by simp only [ac, pZ, simprocAttr]; exact rfl) ?_;refine dR fun K hK => ?_;(repeat refine eV ?_);have dK := And.intro @bu @hm;refine aa (hK _ ?_);clear hK K;show ∃ x, _ ∧ _ ∧ Weak _ _;refine ⟨k + 1, ?_, ?_, ay [3, 9, 10, 11]⟩
   ·omega
   ·omega
 ·have hk2 : k = N.ends.length := by
   have : ¬ k < N.ends.length := by simpa using hb
   omega
  refine ao ?_;refine ba [3] (by simp only [ac, pZ, simprocAttr]; exact rfl) ?_;refine ab (dR fun K hK => ?_);(repeat refine eV ?_);refine aa (hK _ (wK [2] ?_));clear hK K;exact aj (al Tryz.results76 (.one (.own _ _ _ _ rfl rfl (own1 (Ll _ _)))) (by decide) (by rw [hk2]))
theorem Ch (o : Bool) (t : TypeId) (es : List (Int × Int × Int × Int)) (g : FuncId) (css : List (List C)) (b : Nat → Bool) (hl : es.length ≤ 1000000) (hm : ak Tryz.prog g = true) (hg : ∀ j, j < es.length → DCalls Tryz.prog g ([.agg (qC (gq es j))] ++ css.map .rp) (fun r => r = [.c (.p (.bool (b j)))])) : DCalls Tryz.prog 159 [.c (.sl o t 4 (es.map qC)), .fn g css] (fun r => r = [.c (.p (.int .i64 (n6 es.length b)))]) := by
 refine am Tryz.func159 rfl (by rw [Tryz.ntmps159]; simp) fun w0 => ?_;rw [Tryz.ntmps159];have dX := su;simp only [bq, bb, Arg.av, bj, bv, ints, ends];refine ab (dR fun K hK => ?_);(repeat refine eV ?_);refine aa (hK _ (wK [0, 1] ?_));clear hK K;refine ab ?_;refine ab (dR fun K hK => ?_);(repeat refine eV ?_);refine aa (hK _ (wK [0, 1, 7, 8] ?_));clear hK K;refine ah ?_;refine ax (X := Nat) (fun k => k ≤ es.length ∧ ∀ j, j < k → b j = false) (fun k => [(8, .c (.p (.int .i64 k)))]) (fun k => []) (fun k => es.length - k) 0 ⟨Nat.zero_le _, fun j hj => by simp at hj⟩ (by first | rfl | (simp only [ac, pZ, simprocAttr, Int.natCast_zero] <;> rfl)) ?_;rintro k ⟨hk, hne⟩;intro E hE;simp only [ac, pZ, simprocAttr] at hE;subst hE;refine ab (dR fun K hK => ?_);(repeat refine eV ?_);refine aa (hK _ (wK [0, 1, 7, 8, 9] ?_));clear hK K;refine ab (dI (fun hb => ?_) (fun hb => ?_))
 ·have hkl : k < es.length := by simpa using hb
  refine af ?_;show DW _ _ _ _ _;refine ab (ah ?_);refine ab (dR fun K hK => ?_);(repeat refine eV ?_);refine aa (hK _ (wK [0, 1, 5, 7, 8] ?_));clear hK K;refine ab (dR fun K hK => ?_);(repeat refine eV ?_);refine ug rfl ⟨rfl, _, rfl⟩ (by omega) (by simp (disch := first | omega | (intros; contradiction)) only [ac, bh, pZ, simprocAttr, aq, bp, cr, b6, bl, if_pos, cl, bt, di, dq, bw, ca, ck, ff, fg, mo] <;> exact rfl) (by first | assumption) (by simp (disch := first | omega | (intros; contradiction)) only [ac, bh, pZ, simprocAttr, aq, bp, cr, b6, bl, if_pos, cl, bt, di, dq, bw, ca, ck, ff, fg, mo] <;> exact rfl) (hg k hkl) ?_;rintro _ rfl;(repeat refine eV ?_);refine aa (hK _ (wK [0, 1, 5, 7, 8, 16] ?_));clear hK K;refine dI ?_ ?_<;>intro hb
  ·have hi : n6 es.length b = k := sh hkl hb hne;refine ab (dR fun K hK => ?_);(repeat refine eV ?_);refine aa (hK _ (wK [4] ?_));clear hK K;exact aj (al Tryz.results159 (.one (.plain _ _ rfl)) (by decide) (by rw [hi]))
  ·refine af ?_;show DW _ _ _ _ _;refine dR fun K hK => ?_;(repeat refine eV ?_);have dK := @bu;refine aa (hK _ ?_);clear hK K;show ∃ x, _ ∧ _ ∧ Weak _ _;refine ⟨k + 1, ?_, ?_, ay [0, 1, 7, 8]⟩
   ·refine ⟨hkl, fun j hj => ?_⟩
    rcases Nat.lt_or_ge j k with h | h
    ·exact hne j h
    ·obtain rfl : j = k := by omega
     exact hb
   ·omega
 ·have hkl : k = es.length := by
   have : ¬ (k : Int) < (es.length : Int) := by simpa using hb
   omega
  subst hkl;have hi : n6 es.length b = -1 := si hne;refine ao ?_;refine ba [] (by simp only [ac, pZ, simprocAttr]; exact rfl) ?_;refine ab (dR fun K hK => ?_);(repeat refine eV ?_);refine aa (hK _ (wK [4] ?_));clear hK K;exact aj (al Tryz.results159 (.one (.plain _ _ rfl)) (by decide) (by rw [hi]))
theorem ly (o : Bool) (t : TypeId) (es : List (Int × Int × Int × Int)) (g : FuncId) (css : List (List C)) (b : Nat → Bool) (hl : es.length ≤ 1000000) (hm : ak Tryz.prog g = true) (hg : ∀ j, j < es.length → DCalls Tryz.prog g ([.agg (qC (gq es j))] ++ css.map .rp) (fun r => r = [.c (.p (.bool (b j)))])) : DCalls Tryz.prog 75 [.c (.sl o t 4 (es.map qC)), .fn g css] (fun r => r = [.c (.p (.bool (ta es.length b)))]) := by
 refine am Tryz.func75 rfl (by rw [Tryz.ntmps75]; simp) fun w0 => ?_;rw [Tryz.ntmps75];have dX := su;simp only [bq, bb, Arg.av, bj, bv, ints, ends];refine ab (dR fun K hK => ?_);(repeat refine eV ?_);refine aa (hK _ (wK [0, 1] ?_));clear hK K;refine ab (dR fun K hK => ?_)
 repeat (apply cm; (focus exact rfl); (focus (simp (disch := first | omega | (intros; contradiction)) only [ac, bh, pZ, simprocAttr, aq, bp, cr, b6, bl, if_pos, cl, bt, di, dq, bw, ca, ck, ff, fg, mo , Bn]; exact rfl)))
 refine f9 rfl ⟨rfl, _, rfl⟩ (by omega) (by first | exact Bn) (by simp (disch := first | omega | (intros; contradiction)) only [ac, bh, pZ, simprocAttr, aq, bp, cr, b6, bl, if_pos, cl, bt, di, dq, bw, ca, ck, ff, fg, mo , Bn] <;> exact rfl) (Ch o t es g css b hl hm hg) ?_;rintro _ rfl
 repeat (apply cm; (focus exact rfl); (focus (simp (disch := first | omega | (intros; contradiction)) only [ac, bh, pZ, simprocAttr, aq, bp, cr, b6, bl, if_pos, cl, bt, di, dq, bw, ca, ck, ff, fg, mo , Bn]; exact rfl)))
 refine aa (hK _ (wK [4] ?_));clear hK K;exact aj (al Tryz.results75 (.one (.plain _ _ rfl)) (by decide) (by rw [← Hu]))
def isColouringSt1 : Nat → Stat
 | 0 => ⟨[1], [], [], [4], [], []⟩
 | 1 => ⟨[2], [(2, 1)], [], [5], [], []⟩
 | 2 => ⟨[5], [(2, 1)], [], [6], [], []⟩
 | 3 => ⟨[4, 6], [], [], [7], [], []⟩
 | 4 => ⟨[7], [], [], [8], [], []⟩
 | 5 => ⟨[1], [], [], [9], [], []⟩
 | 6 => ⟨[2], [(2, 1)], [], [10], [], []⟩
 | 7 => ⟨[10], [(2, 1)], [], [11], [], []⟩
 | 8 => ⟨[9, 11], [], [], [12], [], []⟩
 | 9 => ⟨[12], [], [], [13], [], []⟩
 | 10 => ⟨[8, 13], [], [], [14], [], []⟩
 | 11 => ⟨[14], [], [], [3], [], []⟩
 | _ => ⟨[], [], [], [], [], []⟩
theorem xh (o : Bool) (t : TypeId) (col : List Int) (e : Int × Int × Int × Int) (v w : Nat) (hv : e.1 = v) (hw : e.2.2.1 = w) (hvl : v < col.length) (hwl : w < col.length) : DCalls Tryz.prog 177 [.agg (qC e), .rp [.sl o t 1 (col.map iC)]] (fun r => r = [.c (.p (.bool (gi col v == gi col w)))]) := by
 obtain ⟨e1, e2, e3, e4⟩ := e;obtain rfl : e1 = v := hv;obtain rfl : e3 = w := hw;refine am Tryz.func177 rfl (by rw [Tryz.ntmps177]; simp) fun w0 => ?_;rw [Tryz.ntmps177];have dX := su;simp only [bq, bb, Arg.av, bj, bv, ints, ends, qC];refine ab (dR fun K hK => ?_);(repeat refine eV ?_);refine aa (hK _ (wK [1, 2] ?_));clear hK K;have dX := And.intro dX (And.intro @isColouringSt1.eq_def @Int.toNat_natCast);refine ab (em isColouringSt1 (fun j r => True) fun K hK => ?_);(repeat refine dV ?_);refine a6 (hK _ (wK [3] ?_));clear hK K;exact aj (al Tryz.results177 (.one (.plain _ _ rfl)) (by decide) rfl)
theorem xg (f : NF) (N : Net) (o : Bool) (t : TypeId) (col : List Int) (hg : bn N = true) (hl : col.length = N.ends.length) (hc : col.all (fun n => inB n 0 1000000000000) = true) : DCalls Tryz.prog 129 [.agg (bj f N), .c (.sl o t 1 (col.map iC))] (fun r => r = [.c (.p (.bool !(ta (edL N N.ends.length).length fun j => gi col (gq (edL N N.ends.length) j).1.toNat == gi col (gq (edL N N.ends.length) j).2.2.1.toNat)))]) := by
 obtain ⟨hs, hn, hids, hdg⟩ := b0 hg;have hel := vh N hdg N.ends.length;have he : ((col.length : Int) == (N.ends.length : Int)) = true := by rw [hl]; exact beq_self_eq_true _
 have hclo : ∀ j, j < (edL N N.ends.length).length → DCalls Tryz.prog 177 ([.agg (qC (gq (edL N N.ends.length) j))] ++ [[C.sl false t 1 (col.map iC)]].map .rp) (fun r => r = [.c (.p (.bool (gi col (gq (edL N N.ends.length) j).1.toNat == gi col (gq (edL N N.ends.length) j).2.2.1.toNat)))]) := fun j hj => by
  obtain ⟨k, i, hk, hi, -, hq⟩ := qv (List.getElem_mem hj);rw [← qu hj] at hq;obtain ⟨q1, -, -, -, q2⟩ := rm hs hk hi;have h1 : (gq (edL N N.ends.length) j).1 = (k : Int) := by rw [hq]
  have h2 : (gq (edL N N.ends.length) j).2.2.1 = ((nd N k i : Nat) : Int) := by rw [hq]; exact congrArg Prod.fst q2
  rw [h1, h2, Int.toNat_natCast, Int.toNat_natCast];exact xh false t col _ k (nd N k i) h1 h2 (by omega) (by omega)
 refine am Tryz.func129 rfl (by rw [Tryz.ntmps129]; simp) fun w0 => ?_;rw [Tryz.ntmps129];have dX := su;simp only [bq, bb, Arg.av, bj, bv, ints, ends];refine ab (dR fun K hK => ?_);(repeat refine eV ?_);refine aa (hK _ (wK [2, 3] ?_));clear hK K;refine ab (dR fun K hK => ?_)
 repeat (apply cm; (focus exact rfl); (focus (simp (disch := first | omega | (intros; contradiction)) only [ac, bh, pZ, simprocAttr, aq, bp, cr, b6, bl, if_pos, cl, bt, di, dq, bw, ca, ck, ff, fg, mo , he, ki, ge, gw]; exact rfl)))
 refine cgF rfl rfl ⟨rfl, _, rfl⟩ (by omega) (by first | exact ki | exact ge | exact gw) (my false t col 0 1000000000000 (by omega)) ?_;rintro _ rfl
 repeat (apply cm; (focus exact rfl); (focus (simp (disch := first | omega | (intros; contradiction)) only [ac, bh, pZ, simprocAttr, aq, bp, cr, b6, bl, if_pos, cl, bt, di, dq, bw, ca, ck, ff, fg, mo , he, ki, ge, gw]; exact rfl)))
 have dX := And.intro dX (And.intro @he @hc);(repeat refine eV ?_);refine cgF rfl rfl ⟨rfl, _, rfl⟩ (by omega) (by first | exact ki | exact ge | exact gw) (Bz ⟨false, f.t1, f.o2, f.t2, false, f.t3, false, f.t4⟩ N (by omega) hdg) ?_;rintro _ rfl
 repeat (apply cm; (focus exact rfl); (focus (simp (disch := first | omega | (intros; contradiction)) only [ac, bh, pZ, simprocAttr, aq, bp, cr, b6, bl, if_pos, cl, bt, di, dq, bw, ca, ck, ff, fg, mo , he, hc, ki, ge, gw]; exact rfl)))
 have dX := And.intro dX (And.intro @he @hc);(repeat refine eV ?_);refine cgF rfl rfl ⟨rfl, _, rfl⟩ (by omega) (by first | exact ki | exact ge | exact gw) (ly true 78 (edL N N.ends.length) 177 _ _ (by omega) Rb hclo) ?_;rintro _ rfl
 repeat (apply cm; (focus exact rfl); (focus (simp (disch := first | omega | (intros; contradiction)) only [ac, bh, pZ, simprocAttr, aq, bp, cr, b6, bl, if_pos, cl, bt, di, dq, bw, ca, ck, ff, fg, mo , he, hc, ki, ge, gw]; exact rfl)))
 have dX := And.intro dX (And.intro @he @hc);(repeat refine eV ?_);have dK := And.intro @he @hc;refine aa (hK _ (a7 [4] ?_));clear hK K;exact aj (al Tryz.results129 (.one (.plain _ _ rfl)) (by decide) rfl)
theorem yk (f : NF) (N : Net) (o : Bool) (t : TypeId) (col : List Int) (hg : bn N = true) (hl : col.length = N.ends.length) (hc : col.all (fun n => inB n 0 1000000000000) = true) : DCalls Tryz.prog 42 [.agg (bj f N), .c (.sl o t 1 (col.map iC))] (fun r => r = [.c (.p (.bool !(ta (edL N N.ends.length).length fun j => gi col (gq (edL N N.ends.length) j).1.toNat == gi col (gq (edL N N.ends.length) j).2.2.1.toNat))), .c (.p (.bool true))]) := by
 obtain ⟨hs, hn, hids, hdg⟩ := b0 hg;refine am Tryz.func42 rfl (by rw [Tryz.ntmps42]; simp) fun w0 => ?_;rw [Tryz.ntmps42];have dX := su;simp only [bq, bb, Arg.av, bj, bv, ints, ends];refine ab (dR fun K hK => ?_);(repeat refine eV ?_);refine aa (hK _ (wK [1, 2] ?_));clear hK K;refine ab ?_;refine ab (dR fun K hK => ?_);(repeat refine eV ?_);refine cL rfl ⟨rfl, _, rfl⟩ (by omega) (by first | exact jc) (d7 ⟨false, f.t1, f.o2, f.t2, false, f.t3, false, f.t4⟩ N hids) ?_;rintro _ rfl;(repeat refine eV ?_);have dX := And.intro dX (@hg);(repeat refine eV ?_);have dK := @hg;refine aa (hK _ (a7 [1, 2, 8] ?_));clear hK K;refine dI ?_ ?_<;>intro hb
 ·cases hb
 ·refine af ?_;show DW _ _ _ _ _;refine ab (dR fun K hK => ?_);(repeat refine eV ?_);refine cL rfl ⟨rfl, _, rfl⟩ (by omega) (by first | exact L6) (xg ⟨false, f.t1, f.o2, f.t2, false, f.t3, false, f.t4⟩ N o t col hg hl hc) ?_;rintro _ rfl;(repeat refine eV ?_);refine aa (hK _ (wK [4, 5] ?_));clear hK K;exact aj (al Tryz.results42 (.two (.plain _ _ rfl) (.plain _ _ rfl)) (by decide) rfl)
end
section
open Go Go.RowKit
def oe (N : Net) (v : Nat) (u : Int) : Bool := ta (gl N.ends v).length fun j => (gp (gl N.ends v) j).1 == u
end
section
open Go Go.RowKit
theorem Oy (o : Bool) (t : TypeId) (xs : List Int) (lo hi : Int) : DCalls Tryz.prog 151 [.c (.sl o t 1 (xs.map iC)), .c (.p (.int .i64 lo)), .c (.p (.int .i64 hi))] (fun r => r = [.c (.p (.bool (lq xs lo hi)))]) := jj fun w vs h1 h2 => by
 obtain ⟨u, v, t2, rfl, g1, g2, g3⟩ := Nh h1 h2;rw [uu g2, uu g3];exact (zv u xs lo hi w (nz g1)).mono fun _ _ h => RetQ.v h
end
section
open Go Go.RowKit
def zBDms51 := PLift.up (And.intro aq (And.intro bp (And.intro cr (And.intro b6 (And.intro bl (And.intro @if_pos.{1} (And.intro @cl (And.intro bt (And.intro @di (And.intro @dq (And.intro @bw (And.intro @ca (And.intro @ck @trivial)))))))))))))
theorem Pi : type_of% zBDms51.down := zBDms51.down
set_option maxRecDepth 8000 in
set_option maxHeartbeats 0 in
theorem Hf (o : Bool) (t : TypeId) (xs : List Int) (hl : xs.length ≤ 1000000) : DCalls Tryz.prog 39 [.c (.sl o t 1 (xs.map iC))] (fun r => r = [.c (.p (.int .i64 (mx0 xs)))]) := by
 refine am Tryz.func39 rfl (by rw [Tryz.ntmps39]; simp) fun w0 => ?_;rw [Tryz.ntmps39];have dX := Pi;simp only [bq, bb, Arg.av, bj, bv, ints, ends];refine ab (dR fun K hK => ?_);(repeat refine eV ?_);refine aa (hK _ (wK [0] ?_));clear hK K;refine ab (dR fun K hK => ?_);(repeat refine eV ?_);refine aa (hK _ (wK [0, 3] ?_));clear hK K;refine ab ?_;refine ab (dR fun K hK => ?_);(repeat refine eV ?_);refine aa (hK _ (wK [3, 6, 7, 8] ?_));clear hK K;refine ah ?_;refine ax (X := Nat) (fun k => k ≤ xs.length) (fun k => [(3, .c (.p (.int .i64 (mx0 (xs.take k))))), (8, .c (.p (.int .i64 k)))]) (fun k => []) (fun k => xs.length - k) 0 (Nat.zero_le _) (by first | rfl | (simp only [ac, pZ, simprocAttr, Int.natCast_zero] <;> rfl)) ?_;rintro k hk;intro E hE;simp only [ac, pZ, simprocAttr] at hE;subst hE;refine ab (dR fun K hK => ?_);(repeat refine eV ?_);refine aa (hK _ (wK [3, 6, 7, 8, 9] ?_));clear hK K;refine ab (dI (fun hb => ?_) (fun hb => ?_))
 ·have hkl : k < xs.length := by simpa using hb
  have hmt := Ls xs hkl;refine af ?_;show DW _ _ _ _ _;refine fl (X := Unit) (fun _u => True) (fun _u => mkE 18 [(3, .c (.p (.int .i64 (mx0 (xs.take (k + 1)))))), (6, .c (.sl o t 1 (xs.map iC))), (7, .c (.p (.int .i64 (xs.length : Int)))), (8, .c (.p (.int .i64 k)))] []) ?_ ?_
  ·refine ah ?_;refine ab (dR fun K hK => ?_);(repeat refine eV ?_);refine aa (hK _ (wK [3, 5, 6, 7, 8] ?_));clear hK K;refine ab (dR fun K hK => ?_);(repeat refine eV ?_);refine aa (hK _ (wK [3, 5, 6, 7, 8, 14] ?_));clear hK K;refine dI ?_ ?_<;>intro hb
   ·have h0 : mx0 (xs.take k) < gi xs k := by simpa using hb
    have hns : mx0 (xs.take (k + 1)) = gi xs k := by omega
    refine dR fun K hK => ?_;(repeat refine eV ?_);refine aa (hK _ ?_);clear hK K;show ∃ x, _ ∧ Weak _ _;refine ⟨(), ?_, (aw _ [3, 6, 7, 8]).trans (Weak.of_eq (by simp only [ac, pZ, simprocAttr , hns] <;> exact rfl))⟩;trivial
   ·have h0 : ¬ mx0 (xs.take k) < gi xs k := by simpa using hb
    have hns : mx0 (xs.take (k + 1)) = mx0 (xs.take k) := by omega
    refine af ?_;show ∃ x, _ ∧ Weak _ _;refine ⟨(), ?_, (aw _ [3, 6, 7, 8]).trans (Weak.of_eq (by simp only [ac, pZ, simprocAttr , hns] <;> exact rfl))⟩;trivial
  ·rintro _ _;refine dR fun K hK => ?_;(repeat refine eV ?_);have dK := @bu;refine aa (hK _ ?_);clear hK K;show ∃ x, _ ∧ _ ∧ Weak _ _;refine ⟨k + 1, ?_, ?_, ay [3, 6, 7, 8]⟩
   ·omega
   ·omega
 ·have hk2 : k = xs.length := by
   have : ¬ (k : Int) < (xs.length : Int) := by simpa using hb
   omega
  refine ao ?_;refine ba [3] (by simp only [ac, pZ, simprocAttr]; exact rfl) ?_;refine ab (dR fun K hK => ?_);(repeat refine eV ?_);refine aa (hK _ (wK [2] ?_));clear hK K;exact aj (al Tryz.results39 (.one (.plain _ _ rfl)) (by decide) (by rw [hk2, List.take_length]))
end
section
theorem Dg {N : Net} {u m j : Nat} (hm : m = (gl N.ends u).length) (hj : j < m) : gi (eu N u m) j = (gp (gl N.ends u) j).1 := by
 have h1 : j < (eu N u m).length := by unfold eu; simp; omega
 rw [cw h1, f6 (by omega)];simp [eu]
end
end Go.Proofs.YtolpiolnhgpjjaaGreat
