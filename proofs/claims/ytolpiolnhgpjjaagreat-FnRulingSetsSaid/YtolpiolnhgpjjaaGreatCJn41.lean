/- Parts of the proof. -/
import Derived.Test.YtolpiolnhgpjjaaGreatCJn36
import Derived.Test.YtolpiolnhgpjjaaGreatCJn26
import Derived.Test.YtolpiolnhgpjjaaGreatCMtr2
import Derived.Test.YtolpiolnhgpjjaaGreatCJn21
import Derived.Test.YtolpiolnhgpjjaaGreatCJn37
import Derived.Test.YtolpiolnhgpjjaaGreatCJn25
import Derived.Test.YtolpiolnhgpjjaaGreatCJn23
import Derived.Test.YtolpiolnhgpjjaaGreatCJn19
import Derived.Test.YtolpiolnhgpjjaaGreatCShelf
import Derived.Test.YtolpiolnhgpjjaaGreatCDso
import Derived.Test.YtolpiolnhgpjjaaGreatCJn9
import Derived.Test.YtolpiolnhgpjjaaGreatCJn31
set_option linter.unusedSimpArgs false
set_option linter.unusedVariables false
namespace Go.Proofs.YtolpiolnhgpjjaaGreat
section
open Go Go.RowKit
theorem cp {N : Net} (hg : bj N = true) : Sym N.ends ∧ (1 ≤ N.ends.length ∧ N.ends.length ≤ 40) ∧ N.ids.length ≤ 2097152 ∧ ∀ a, (gl N.ends a).length ≤ 1000 := by
 have hn := zk hg;refine ⟨(zl hg).sym, hn, by have := Fu hg; omega, fun a => ?_⟩
 rcases Nat.lt_or_ge a N.ends.length with h | h
 ·have := Fv hg h; omega
 ·have : gl N.ends a = [] := by unfold gl; rw [List.getD_eq_getElem?_getD, List.getElem?_eq_none h]; rfl
  rw [this]; simp
end
section
set_option maxHeartbeats 0
set_option maxRecDepth 8000
open Go Go.RowKit
theorem mu (o : Bool) (t : TypeId) (xs : List Int) (n : Nat) (hn : n ≤ 1048576) : DCalls Tryz.prog 63 [.c (.sl o t 1 (xs.map iC)), .c (.p (.int .i64 n))] (fun r => r = [.c (.p (.bool (dc xs n)))]) := ga fun w vs h1 h2 => by
 obtain ⟨u, v, rfl, g1, g2⟩ := Gr h1 h2;rw [rn g2];exact td u xs n w (mq g1) hn
def zBDgc1 := PLift.up (And.intro ap (And.intro bc (And.intro b9 (And.intro bg (And.intro ay (And.intro @if_pos.{1} (And.intro @b6 (And.intro ca (And.intro @dt (And.intro @dr (And.intro @bq (And.intro @ba (And.intro @a8 @trivial)))))))))))))
theorem Qg : type_of% zBDgc1.down := zBDgc1.down
theorem Mj (f : NF) (N : Net) (o : Bool) (t : TypeId) (xs : List Int) (hg : bj N = true) (hp : dc xs N.ends.length = true) : DCalls Tryz.prog 91 [.agg (bi f N), .c (.sl o t 1 (xs.map iC))] (fun r => r = [.c (.p (.bool true))]) := by
 obtain ⟨hs, hn, hids, hdg⟩ := cp hg;refine am Tryz.func91 rfl (by rw [Tryz.ntmps91]; simp) fun w0 => ?_;rw [Tryz.ntmps91];have dX := Qg;simp only [b4, bd, Arg.av, bi, b7, ints, ends];refine ab (dR fun K hK => ?_);(repeat refine eV ?_);refine aa (hK _ (wK [1, 2] ?_));clear hK K;refine ab (dR fun K hK => ?_);(repeat refine eV ?_);refine cL rfl ⟨rfl, _, rfl⟩ (by omega) (by first | exact mt | exact Kg) (ez ⟨false, f.t1, f.o2, f.t2, false, f.t3, false, f.t4⟩ N hids) ?_;rintro _ rfl;(repeat refine eV ?_);have dX := And.intro dX (@hg);(repeat refine eV ?_);have dX := And.intro dX (@hg);refine cgF rfl rfl ⟨rfl, _, rfl⟩ (by omega) (by first | exact mt | exact Kg) (mu o t xs N.ends.length (by omega)) ?_;rintro _ rfl;(repeat refine eV ?_);have dX := And.intro dX (And.intro @hg @hp);(repeat refine eV ?_);have dK := And.intro @hg @hp;refine aa (hK _ (ax [4] ?_));clear hK K;exact ak (an Tryz.results91 (.one (.plain _ _ rfl)) (by decide) rfl)
theorem L3 (N : Net) (v : Nat) : fo N v (gl N.ends v).length = (gl N.ends v).map Prod.fst := by simp [fo]
theorem Uy (f : NF) (N : Net) (v : Nat) (o : Bool) (t : TypeId) (out : List Int) (hg : bj N = true) (hv : v < N.ends.length) (ho : out.length = N.ends.length) : DCalls Tryz.prog 110 [.agg (bi f N), .c (.p (.int .i64 v)), .c (.sl o t 1 (out.map iC))] (fun r => r = [.own false [.sl true 3 1 ((atL out ((gl N.ends v).map Prod.fst)).map iC)]]) := by
 obtain ⟨hs, hn, hids, hdg⟩ := cp hg;have hd := hdg v;refine am Tryz.func110 rfl (by rw [Tryz.ntmps110]; simp) fun w0 => ?_;rw [Tryz.ntmps110];have dX := Qg;simp only [b4, bd, Arg.av, bi, b7, ints, ends];refine ab (dR fun K hK => ?_);(repeat refine eV ?_);refine aa (hK _ (wK [1, 2, 3] ?_));clear hK K;refine ab (dR fun K hK => ?_);(repeat refine eV ?_);refine aa (hK _ (wK [1, 2, 3, 7] ?_));clear hK K;refine ab ?_;have dX := And.intro dX (@Int.toNat_natCast);refine ab (dR fun K hK => ?_);(repeat refine eV ?_);refine aa (hK _ (wK [2, 7, 14, 15, 16] ?_));clear hK K;refine ae ?_;refine ei 7 3 1 (by decide) (by simp only [ac, pZ, simprocAttr]) [2, 7, 14, 15, 16] (by simp only [ac, pZ, simprocAttr]; exact rfl) ?_;refine au (X := Nat) (fun k => k ≤ (gl N.ends v).length) (fun k => [(16, .c (.p (.int .i64 k)))]) (fun k => [((7, 0), ⟨none, [.sl true 3 1 ((atL out (fo N v k)).map iC)]⟩)]) (fun k => (gl N.ends v).length - k) 0 (Nat.zero_le _) (by first | rfl | (simp only [ac, pZ, simprocAttr, Int.natCast_zero] <;> rfl)) ?_;rintro k hk;intro E hE;simp only [ac, pZ, simprocAttr] at hE;subst hE;have hnl : (atL out (fo N v k)).length = k := by rw [K6, sx hk]
 refine ab (dR fun K hK => ?_);(repeat refine eV ?_);refine aa (hK _ (wK [2, 7, 14, 15, 16, 17] ?_));clear hK K;refine ab (dI (fun hb => ?_) (fun hb => ?_))
 ·have hk1 : k < (gl N.ends v).length := by simpa using hb
  have hgp : (gp (gl N.ends v) k).1 = ((nd N v k : Nat) : Int) := by rw [(ec hs hv hk1).2.2.2.2]
  have hxl := (ec hs hv hk1).1;have hns : atL out (fo N v (k + 1)) = atL out (fo N v k) ++ [gi out (nd N v k)] := by rw [Bs hk1, Qu, hgp, Int.toNat_natCast]
  refine af ?_;show DW _ _ _ _ _;refine ab (ae ?_);have dX := And.intro dX (@hgp);refine ab (dR fun K hK => ?_);(repeat refine eV ?_);have dK := @hgp;refine aa (hK _ (ax [2, 7, 9, 14, 15, 16] ?_));clear hK K;have dX := And.intro dX (And.intro @Int.toNat_natCast @hgp);refine dR fun K hK => ?_;(repeat refine eV ?_);have dK := And.intro @ef @hgp;refine aa (hK _ (ax [2, 7, 14, 15, 16] ?_));clear hK K;refine dR fun K hK => ?_;(repeat refine eV ?_);have dK := And.intro @bt @hns;refine aa (hK _ ?_);clear hK K;show ∃ x, _ ∧ _ ∧ Weak _ _;refine ⟨k + 1, ?_, ?_, aq [2, 7, 14, 15, 16]⟩
  ·omega
  ·omega
 ·have hk2 : k = (gl N.ends v).length := by
   have : ¬ k < (gl N.ends v).length := by simpa using hb
   omega
  refine ao ?_;refine bb [7] (by simp only [ac, pZ, simprocAttr]; exact rfl) ?_;refine ab (dR fun K hK => ?_);(repeat refine eV ?_);refine aa (hK _ (wK [6] ?_));clear hK K;exact ak (an Tryz.results110 (.one (.own _ _ _ _ rfl rfl (own1 (az _ _)))) (by decide) (by rw [hk2, L3]))
theorem iz {xs : List Int} {x : Int} : 0 ≤ th xs x ↔ x ∈ xs := by
 unfold th
 rcases zm xs.length fun j => gi xs j == x with ⟨h1, h2⟩ | ⟨m, h1, h2, h3, -⟩
 ·rw [h1];refine ⟨fun h => absurd h (by decide), fun h => ?_⟩;obtain ⟨j, hj, rfl⟩ := List.getElem_of_mem h;have := h2 j hj;rw [bm hj] at this;simp at this
 ·rw [h1];refine ⟨fun _ => ?_, fun _ => by omega⟩;have h3 : gi xs m = x := by simpa using h3
  rw [← h3, bm h2];exact List.getElem_mem h2
end
section
open Go Go.RowKit
noncomputable def D3 (N : Net) : List (List Int) := Cr N.ends.length (bo N)
def zBDad1 := PLift.up (And.intro ap (And.intro bc (And.intro b9 (And.intro bg (And.intro ay (And.intro @if_pos.{1} (And.intro @b6 (And.intro ca (And.intro @dt (And.intro @dr (And.intro @bq (And.intro @ba (And.intro @a8 (And.intro dw (And.intro @dx (And.intro @cq @trivial))))))))))))))))
theorem V3 : type_of% zBDad1.down := zBDad1.down
set_option maxRecDepth 8000 in
set_option maxHeartbeats 0 in
theorem j7 (f : NF) (N : Net) (hg : bj N = true) : DCalls Tryz.prog 93 [.agg (bi f N)] (fun r => r = [.own false [.sl true 25 1 ((D3 N).map (lsC 3))]]) := by
 obtain ⟨hs, hn, hids, hdg⟩ := cp hg;refine am Tryz.func93 rfl (by rw [Tryz.ntmps93]; simp) fun w0 => ?_;rw [Tryz.ntmps93];have dX := V3;simp only [b4, bd, Arg.av, bi, b7, ints, ends];refine ab (dR fun K hK => ?_);(repeat refine eV ?_);refine aa (hK _ (wK [1] ?_));clear hK K;refine ab (dR fun K hK => ?_);(repeat refine eV ?_);refine aa (hK _ (wK [1, 3] ?_));clear hK K;refine ab ?_;refine ab (dR fun K hK => ?_);(repeat refine eV ?_);refine aa (hK _ (wK [1, 3, 7, 8] ?_));clear hK K;refine ae ?_;refine ei 3 25 1 (by decide) (by simp only [ac, pZ, simprocAttr]) [1, 3, 7, 8] (by simp only [ac, pZ, simprocAttr]; exact rfl) ?_;refine au (X := Nat) (fun k => k ≤ N.ends.length) (fun k => [(8, .c (.p (.int .i64 k)))]) (fun k => [((3, 0), ⟨none, [.sl true 25 1 ((Cr k (bo N)).map (lsC 3))]⟩)]) (fun k => N.ends.length - k) 0 (Nat.zero_le _) (by first | rfl | (simp only [ac, pZ, simprocAttr, Int.natCast_zero] <;> rfl)) ?_;rintro k hk;intro E hE;simp only [ac, pZ, simprocAttr] at hE;subst hE;have htl := nf k (bo N);refine ab (dR fun K hK => ?_);(repeat refine eV ?_);refine aa (hK _ (wK [1, 3, 7, 8, 9] ?_));clear hK K;refine ab (dI (fun hb => ?_) (fun hb => ?_))
 ·have hk1 : k < N.ends.length := by simpa using hb
  have hns := Lf k (bo N);refine af ?_;show DW _ _ _ _ _;refine ab (ae ?_);refine ab (dR fun K hK => ?_);(repeat refine eV ?_);refine aa (hK _ (wK [1, 3, 4, 7, 8] ?_));clear hK K;refine dR fun K hK => ?_;(repeat refine eV ?_);refine cL rfl ⟨rfl, _, rfl⟩ (by omega) (by first | exact Pv) (mw ⟨false, f.t1, f.o2, f.t2, false, f.t3, false, f.t4⟩ N k hs hk1 (by omega) hdg) ?_;rintro _ rfl;(repeat refine eV ?_);have dK := And.intro @mb @Ro;refine aa (hK _ (ax [1, 3, 7, 8] ?_));clear hK K;refine dR fun K hK => ?_;(repeat refine eV ?_);have dK := And.intro @bt @hns;refine aa (hK _ ?_);clear hK K;show ∃ x, _ ∧ _ ∧ Weak _ _;refine ⟨k + 1, ?_, ?_, aq [1, 3, 7, 8]⟩
  ·omega
  ·omega
 ·have hk2 : k = N.ends.length := by
   have : ¬ k < N.ends.length := by simpa using hb
   omega
  refine ao ?_;refine bb [3] (by simp only [ac, pZ, simprocAttr]; exact rfl) ?_;refine ab (dR fun K hK => ?_);(repeat refine eV ?_);refine aa (hK _ (wK [2] ?_));clear hK K;exact ak (an Tryz.results93 (.one (.own _ _ _ _ rfl rfl (own1 (E2 _ _ _)))) (by decide) (by rw [hk2]; rfl))
end
section
open Go Go.RowKit
def qC (e : Int × Int × Int × Int) : List C := [.p (.int .i64 e.1), .p (.int .i64 e.2.1), .p (.int .i64 e.2.2.1), .p (.int .i64 e.2.2.2)]
def gq (L : List (Int × Int × Int × Int)) (k : Nat) : Int × Int × Int × Int := L.getD k (0, 0, 0, 0)
theorem X0 {L : List (Int × Int × Int × Int)} {k : Nat} (h : k < L.length) : gq L k = L[k] := by simp [gq, h]
theorem Yy {L : List (Int × Int × Int × Int)} {k : Nat} (h : k < L.length) : (L.map qC).getD k [] = [.p (.int .i64 (gq L k).1), .p (.int .i64 (gq L k).2.1), .p (.int .i64 (gq L k).2.2.1), .p (.int .i64 (gq L k).2.2.2)] := by
 rw [List.getD_eq_getElem?_getD, List.getElem?_map, List.getElem?_eq_getElem h, X0 h]; rfl
end
section
open Go Go.RowKit
def zBDme51 := PLift.up (And.intro ap (And.intro bc (And.intro b9 (And.intro bg (And.intro ay (And.intro @if_pos.{1} (And.intro @b6 (And.intro ca (And.intro @dt (And.intro @dr (And.intro @bq (And.intro @ba (And.intro @a8 @trivial)))))))))))))
theorem S3 : type_of% zBDme51.down := zBDme51.down
set_option maxRecDepth 8000 in
set_option maxHeartbeats 0 in
theorem D5 (o : Bool) (t : TypeId) (es : List (Int × Int)) (g : FuncId) (css : List (List C)) (b : Nat → Bool) (hl : es.length ≤ 1000000) (hm : aj Tryz.prog g = true) (hg : ∀ j, j < es.length → DCalls Tryz.prog g ([.agg (eC (gp es j))] ++ css.map .rp) (fun r => r = [.c (.p (.bool (b j)))])) : DCalls Tryz.prog 193 [.c (.sl o t 2 (es.map eC)), .fn g css] (fun r => r = [.c (.p (.int .i64 (wy es.length b)))]) := by
 refine am Tryz.func193 rfl (by rw [Tryz.ntmps193]; simp) fun w0 => ?_;rw [Tryz.ntmps193];have dX := S3;simp only [b4, bd, Arg.av, bi, b7, ints, ends];refine ab (dR fun K hK => ?_);(repeat refine eV ?_);refine aa (hK _ (wK [0, 1] ?_));clear hK K;refine ab ?_;refine ab (dR fun K hK => ?_);(repeat refine eV ?_);refine aa (hK _ (wK [0, 1, 7, 8] ?_));clear hK K;refine ae ?_;refine au (X := Nat) (fun k => k ≤ es.length ∧ ∀ j, j < k → b j = false) (fun k => [(8, .c (.p (.int .i64 k)))]) (fun k => []) (fun k => es.length - k) 0 ⟨Nat.zero_le _, fun j hj => by simp at hj⟩ (by first | rfl | (simp only [ac, pZ, simprocAttr, Int.natCast_zero] <;> rfl)) ?_;rintro k ⟨hk, hne⟩;intro E hE;simp only [ac, pZ, simprocAttr] at hE;subst hE;refine ab (dR fun K hK => ?_);(repeat refine eV ?_);refine aa (hK _ (wK [0, 1, 7, 8, 9] ?_));clear hK K;refine ab (dI (fun hb => ?_) (fun hb => ?_))
 ·have hkl : k < es.length := by simpa using hb
  refine af ?_;show DW _ _ _ _ _;refine ab (ae ?_);refine ab (dR fun K hK => ?_);(repeat refine eV ?_);refine aa (hK _ (wK [0, 1, 5, 7, 8] ?_));clear hK K;refine ab (dR fun K hK => ?_);(repeat refine eV ?_);refine kv rfl ⟨rfl, _, rfl⟩ (by omega) (by simp (disch := first | omega | (intros; contradiction)) only [ac, bl, pZ, simprocAttr, ap, bc, b9, bg, ay, if_pos, b6, ca, dt, dr, bq, ba, a8] <;> exact rfl) (by first | assumption) (by simp (disch := first | omega | (intros; contradiction)) only [ac, bl, pZ, simprocAttr, ap, bc, b9, bg, ay, if_pos, b6, ca, dt, dr, bq, ba, a8] <;> exact rfl) (hg k hkl) ?_;rintro _ rfl;(repeat refine eV ?_);refine aa (hK _ (wK [0, 1, 5, 7, 8, 16] ?_));clear hK K;refine dI ?_ ?_<;>intro hb
  ·have hi : wy es.length b = k := B4 hkl hb hne;refine ab (dR fun K hK => ?_);(repeat refine eV ?_);refine aa (hK _ (wK [4] ?_));clear hK K;exact ak (an Tryz.results193 (.one (.plain _ _ rfl)) (by decide) (by rw [hi]))
  ·refine af ?_;show DW _ _ _ _ _;refine dR fun K hK => ?_;(repeat refine eV ?_);have dK := @bt;refine aa (hK _ ?_);clear hK K;show ∃ x, _ ∧ _ ∧ Weak _ _;refine ⟨k + 1, ?_, ?_, aq [0, 1, 7, 8]⟩
   ·refine ⟨hkl, fun j hj => ?_⟩
    rcases Nat.lt_or_ge j k with h | h
    ·exact hne j h
    ·obtain rfl : j = k := by omega
     exact hb
   ·omega
 ·have hkl : k = es.length := by
   have : ¬ (k : Int) < (es.length : Int) := by simpa using hb
   omega
  subst hkl;have hi : wy es.length b = -1 := B5 hne;refine ao ?_;refine bb [] (by simp only [ac, pZ, simprocAttr]; exact rfl) ?_;refine ab (dR fun K hK => ?_);(repeat refine eV ?_);refine aa (hK _ (wK [4] ?_));clear hK K;exact ak (an Tryz.results193 (.one (.plain _ _ rfl)) (by decide) (by rw [hi]))
end
section
set_option maxHeartbeats 0
set_option maxRecDepth 8000
open Go Go.RowKit
def zBDgs1 := PLift.up (And.intro ap (And.intro bc (And.intro b9 (And.intro bg (And.intro ay (And.intro @if_pos.{1} (And.intro @b6 (And.intro ca (And.intro @dt (And.intro @dr (And.intro @bq (And.intro @ba (And.intro @a8 (And.intro dw (And.intro @dx (And.intro @cq @trivial))))))))))))))))
theorem zq : type_of% zBDgs1.down := zBDgs1.down
theorem w9 (o : Bool) (t : TypeId) (es : List (Int × Int)) (g : FuncId) (css : List (List C)) (b : Nat → Bool) (hl : es.length ≤ 1000000) (hm : aj Tryz.prog g = true) (hg : ∀ j, j < es.length → DCalls Tryz.prog g ([.agg (eC (gp es j))] ++ css.map .rp) (fun r => r = [.c (.p (.bool (b j)))])) : DCalls Tryz.prog 146 [.c (.sl o t 2 (es.map eC)), .fn g css] (fun r => r = [.c (.p (.bool (jc es.length b)))]) := by
 refine am Tryz.func146 rfl (by rw [Tryz.ntmps146]; simp) fun w0 => ?_;rw [Tryz.ntmps146];have dX := zq;simp only [b4, bd, Arg.av, bi, b7, ints, ends];refine ab (dR fun K hK => ?_);(repeat refine eV ?_);refine aa (hK _ (wK [0, 1] ?_));clear hK K;refine ab (dR fun K hK => ?_)
 repeat (apply bz; (focus exact rfl); (focus (simp (disch := first | omega | (intros; contradiction)) only [ac, bl, pZ, simprocAttr, ap, bc, b9, bg, ay, if_pos, b6, ca, dt, dr, bq, ba, a8, dw, dx, cq , C5]; exact rfl)))
 refine du rfl ⟨rfl, _, rfl⟩ (by omega) (by first | exact C5) (by simp (disch := first | omega | (intros; contradiction)) only [ac, bl, pZ, simprocAttr, ap, bc, b9, bg, ay, if_pos, b6, ca, dt, dr, bq, ba, a8, dw, dx, cq , C5] <;> exact rfl) (D5 o t es g css b hl hm hg) ?_;rintro _ rfl
 repeat (apply bz; (focus exact rfl); (focus (simp (disch := first | omega | (intros; contradiction)) only [ac, bl, pZ, simprocAttr, ap, bc, b9, bg, ay, if_pos, b6, ca, dt, dr, bq, ba, a8, dw, dx, cq , C5]; exact rfl)))
 refine aa (hK _ (wK [4] ?_));clear hK K;exact ak (an Tryz.results146 (.one (.plain _ _ rfl)) (by decide) (by rw [← Ko]))
theorem Ip (e : Int × Int) (o : Bool) (t : TypeId) (s : List Int) (hl : s.length ≤ 1000000) : DCalls Tryz.prog 155 [.agg (eC e), .rp [.sl o t 1 (s.map iC)]] (fun r => r = [.c (.p (.bool (decide (0 ≤ th s e.1))))]) := by
 refine am Tryz.func155 rfl (by rw [Tryz.ntmps155]; simp) fun w0 => ?_;rw [Tryz.ntmps155];have dX := zq;simp only [b4, bd, Arg.av, bi, b7, ints, ends, eC];refine ab (dR fun K hK => ?_);(repeat refine eV ?_);refine aa (hK _ (wK [1, 2] ?_));clear hK K;refine ab (dR fun K hK => ?_)
 repeat (apply bz; (focus exact rfl); (focus (simp (disch := first | omega | (intros; contradiction)) only [ac, bl, pZ, simprocAttr, ap, bc, b9, bg, ay, if_pos, b6, ca, dt, dr, bq, ba, a8, dw, dx, cq , f6]; exact rfl)))
 refine du rfl ⟨rfl, _, rfl⟩ (by omega) (by first | exact f6) (by simp (disch := first | omega | (intros; contradiction)) only [ac, bl, pZ, simprocAttr, ap, bc, b9, bg, ay, if_pos, b6, ca, dt, dr, bq, ba, a8, dw, dx, cq , f6] <;> exact rfl) (mr o t s e.1 hl) ?_;rintro _ rfl
 repeat (apply bz; (focus exact rfl); (focus (simp (disch := first | omega | (intros; contradiction)) only [ac, bl, pZ, simprocAttr, ap, bc, b9, bg, ay, if_pos, b6, ca, dt, dr, bq, ba, a8, dw, dx, cq , f6]; exact rfl)))
 refine aa (hK _ (wK [3] ?_));clear hK K;exact ak (an Tryz.results155 (.one (.plain _ _ rfl)) (by decide) rfl)
def Fd (N : Net) (v : Nat) (s : List Int) : Bool := jc (gl N.ends v).length fun j => decide (0 ≤ th s (gp (gl N.ends v) j).1)
theorem Mn (f : NF) (N : Net) (v : Nat) (o : Bool) (t : TypeId) (s : List Int) (hg : bj N = true) (hv : v < N.ends.length) (hl : s.length ≤ 1000000) : DCalls Tryz.prog 68 [.agg (bi f N), .c (.p (.int .i64 v)), .c (.sl o t 1 (s.map iC))] (fun r => r = [.c (.p (.bool (Fd N v s)))]) := by
 obtain ⟨hs, hn, hids, hdg⟩ := cp hg;have hd := hdg v;refine am Tryz.func68 rfl (by rw [Tryz.ntmps68]; simp) fun w0 => ?_;rw [Tryz.ntmps68];have dX := zq;simp only [b4, bd, Arg.av, bi, b7, ints, ends];refine ab (dR fun K hK => ?_);(repeat refine eV ?_);refine aa (hK _ (wK [1, 3, 5] ?_));clear hK K;refine ab (dR fun K hK => ?_)
 repeat (apply bz; (focus exact rfl); (focus (simp (disch := first | omega | (intros; contradiction)) only [ac, bl, pZ, simprocAttr, ap, bc, b9, bg, ay, if_pos, b6, ca, dt, dr, bq, ba, a8, dw, dx, cq , Dc, Int.toNat_natCast]; exact rfl)))
 refine du rfl ⟨rfl, _, rfl⟩ (by omega) (by first | exact Dc) (by simp (disch := first | omega | (intros; contradiction)) only [ac, bl, pZ, simprocAttr, ap, bc, b9, bg, ay, if_pos, b6, ca, dt, dr, bq, ba, a8, dw, dx, cq , Dc] <;> exact rfl) (w9 f.o2 f.t2 (gl N.ends v) 155 [[.sl false t 1 (s.map iC)]] (fun j => decide (0 ≤ th s (gp (gl N.ends v) j).1)) (by omega) U5 fun j _ => Ip (gp (gl N.ends v) j) false t s hl) ?_;rintro _ rfl
 repeat (apply bz; (focus exact rfl); (focus (simp (disch := first | omega | (intros; contradiction)) only [ac, bl, pZ, simprocAttr, ap, bc, b9, bg, ay, if_pos, b6, ca, dt, dr, bq, ba, a8, dw, dx, cq , Dc]; exact rfl)))
 refine aa (hK _ (wK [6] ?_));clear hK K;exact ak (an Tryz.results68 (.one (.plain _ _ rfl)) (by decide) rfl)
def greedyRulingSt1 : Nat → Stat
 | 0 => ⟨[1], [], [], [6], [], []⟩
 | 1 => ⟨[2], [], [], [7], [], []⟩
 | 2 => ⟨[6, 7], [], [], [8], [], []⟩
 | 3 => ⟨[8], [], [], [9], [], []⟩
 | 4 => ⟨[0], [], [], [10], [], []⟩
 | 5 => ⟨[9, 10], [], [], [11], [], []⟩
 | 6 => ⟨[11], [], [], [12], [], []⟩
 | 7 => ⟨[3], [], [], [13], [], []⟩
 | 8 => ⟨[13], [], [], [14], [], []⟩
 | 9 => ⟨[12, 14], [], [], [15], [], []⟩
 | 10 => ⟨[15], [], [], [5], [], []⟩
 | _ => ⟨[], [], [], [], [], []⟩
theorem wx (o : Bool) (t t2 : TypeId) (L : List (List Int)) (v w : Nat) (al : Int) (hv : v < L.length) (hw : w < (lg L v).length) (h1 : 0 ≤ al) (h2 : al ≤ 1000) : DCalls Tryz.prog 95 [.c (.p (.int .i64 w)), .rp [.sl o t 1 (L.map (lsC t2))], .rp [.p (.int .i64 v)], .rp [.p (.int .i64 al)]] (fun r => r = [.c (.p (.bool (inB (gi (lg L v) w) 0 (al - 1))))]) := by
 refine am Tryz.func95 rfl (by rw [Tryz.ntmps95]; simp) fun w0 => ?_;rw [Tryz.ntmps95];have dX := zq;simp only [b4, bd, Arg.av, bi, b7, ints, ends];refine ab (dR fun K hK => ?_);(repeat refine eV ?_);refine aa (hK _ (wK [0, 1, 2, 3] ?_));clear hK K;have dX := And.intro dX (And.intro @greedyRulingSt1.eq_def @Int.toNat_natCast);refine ab (fk greedyRulingSt1 (fun j r => match j with | 9 => r = [.c (.p (.bool (inB (gi (lg L v) w) 0 (al - 1))))] | _ => True) fun K hK => ?_);(repeat refine dV ?_);have dX := And.intro dX (@greedyRulingSt1.eq_def);refine dcF rfl ⟨rfl, _, rfl⟩ (by omega) (by first | exact f9) (iw (gi (lg L v) w) 0 (al - 1)) ?_;rintro _ rfl;(repeat refine dV ?_);refine br (hK _ (wK [5] ?_));clear hK K;exact ak (an Tryz.results95 (.one (.plain _ _ rfl)) (by decide) rfl)
noncomputable def cx (N : Net) (al : Int) (v : Nat) (s : List Int) : Bool := jc s.length fun j => inB (gi (bo N v) (gi s j).toNat) 0 (al - 1)
theorem Ah (f : NF) (N : Net) (o : Bool) (t : TypeId) (ord : List Int) (al : Nat) (hg : bj N = true) (hp : dc ord N.ends.length = true) (h1 : 1 ≤ al) (h2 : al ≤ 40) : DCalls Tryz.prog 21 [.agg (bi f N), .c (.sl o t 1 (ord.map iC)), .c (.p (.int .i64 al))] (fun r => r = [.own false [.sl true 3 1 ((sorted (co (cx N al) ord N.ends.length)).map iC)], .c (.p (.bool true))]) := by
 obtain ⟨hs, hn, hids, hdg⟩ := cp hg;obtain ⟨hol, hoi, hod⟩ := l9 hp;have hin : inB (al : Int) 1 40 = true := ce.2 (by omega);have hal : (D3 N).length = N.ends.length := nf _ _;have hne : 0 < (co (cx N al) ord N.ends.length).length := Fr (fun v => rfl) _ (by omega);refine am Tryz.func21 rfl (by rw [Tryz.ntmps21]; simp) fun w0 => ?_;rw [Tryz.ntmps21];have dX := zq;simp only [b4, bd, Arg.av, bi, b7, ints, ends];refine ab (dR fun K hK => ?_);(repeat refine eV ?_);refine aa (hK _ (wK [1, 3, 5] ?_));clear hK K;refine ab ?_;refine ab (dR fun K hK => ?_);(repeat refine eV ?_);refine cL rfl ⟨rfl, _, rfl⟩ (by omega) (by first | exact Ke | exact f9) (Mj ⟨false, f.t1, f.o2, f.t2, false, f.t3, false, f.t4⟩ N o t ord hg hp) ?_;rintro _ rfl;(repeat refine eV ?_);refine cgF rfl rfl ⟨rfl, _, rfl⟩ (by omega) (by first | exact Ke | exact f9) (iw al 1 40) ?_;rintro _ rfl;(repeat refine eV ?_);have dX := And.intro dX (@hin);(repeat refine eV ?_);have dK := @hin;refine aa (hK _ (ax [1, 3, 5, 20] ?_));clear hK K;refine dI ?_ ?_<;>intro hb
 ·cases hb
 ·refine af ?_;show DW _ _ _ _ _;refine ab (dR fun K hK => ?_);(repeat refine eV ?_);refine cL rfl ⟨rfl, _, rfl⟩ (by omega) (by first | exact Pd) (j7 ⟨false, f.t1, f.o2, f.t2, false, f.t3, false, f.t4⟩ N hg) ?_;rintro _ rfl;(repeat refine eV ?_);refine aa (hK _ (wK [1, 5, 8] ?_));clear hK K;refine ab (dR fun K hK => ?_);(repeat refine eV ?_);refine aa (hK _ (wK [1, 5, 8, 9] ?_));clear hK K;refine ab ?_;have dX := And.intro dX (@hol);refine ab (dR fun K hK => ?_);(repeat refine eV ?_);have dK := @hol;refine aa (hK _ (ax [5, 8, 9, 23, 24, 25] ?_));clear hK K;refine ae ?_;refine ei 9 3 1 (by decide) (by simp only [ac, pZ, simprocAttr]) [5, 8, 9, 23, 24, 25] (by simp only [ac, pZ, simprocAttr]; exact rfl) ?_;refine au (X := Nat) (fun k => k ≤ N.ends.length) (fun k => [(25, .c (.p (.int .i64 k)))]) (fun k => [((9, 0), ⟨none, [.sl true 3 1 ((co (cx N al) ord k).map iC)]⟩)]) (fun k => N.ends.length - k) 0 (Nat.zero_le _) (by first | rfl | (simp only [ac, pZ, simprocAttr, Int.natCast_zero, co] <;> rfl)) ?_;rintro k hk;intro E hE;simp only [ac, pZ, simprocAttr] at hE;subst hE;have hgl := n9 (bad := cx N al) (ord := ord) k;refine ab (dR fun K hK => ?_);(repeat refine eV ?_);refine aa (hK _ (wK [5, 8, 9, 23, 24, 25, 26] ?_));clear hK K;refine ab (dI (fun hb => ?_) (fun hb => ?_))
  ·have hk1 : k < N.ends.length := by simpa using hb
   obtain ⟨v, hve⟩ : ∃ v : Nat, gi ord k = v := ⟨(gi ord k).toNat, by have := hoi k hk1; omega⟩;have hvl : v < N.ends.length := by have := hoi k hk1; omega
   have hns : co (cx N al) ord (k + 1) = if cx N al v (co (cx N al) ord k) = true then co (cx N al) ord k else co (cx N al) ord k ++ [(v : Int)] := by rw [co, hve, Int.toNat_natCast]
   have hmem : ∀ j, j < (co (cx N al) ord k).length → ∃ w : Nat, gi (co (cx N al) ord k) j = w ∧ w < N.ends.length := fun j hj => by
    obtain ⟨i, hi, he⟩ := fp (bad := cx N al) (ord := ord) k (List.getElem_mem hj);have h3 := hoi i (by omega);exact ⟨(gi ord i).toNat, by rw [bm hj, he]; omega, by omega⟩
   have hlg : lg (D3 N) v = bo N v := Ii hvl;have hdl : (bo N v).length = N.ends.length := (c9 hs hvl).len;obtain ⟨S, hS⟩ : ∃ S, S = co (cx N al) ord k := ⟨_, rfl⟩;rw [← hS] at hns hgl hmem ⊢
   have hclo : ∀ j, j < S.length → DCalls Tryz.prog 95 ([.c (.p (.int .i64 (gi S j)))] ++ [[C.sl true 25 1 ((D3 N).map (lsC 3))], [C.p (.int .i64 v)], [C.p (.int .i64 (al : Int))]].map .rp) (fun r => r = [.c (.p (.bool (inB (gi (bo N v) (gi S j).toNat) 0 ((al : Int) - 1))))]) := fun j hj => by
    obtain ⟨w, hw1, hw2⟩ := hmem j hj;rw [hw1, Int.toNat_natCast, ← hlg];exact wx true 25 3 (D3 N) v w al (by omega) (by rw [hlg, hdl]; exact hw2) (by omega) (by omega)
   refine af ?_;show DW _ _ _ _ _;refine ab (ae ?_);have dX := And.intro dX (@hve);refine ab (dR fun K hK => ?_);(repeat refine eV ?_);have dK := @hve;refine aa (hK _ (ax [5, 8, 9, 11, 23, 24, 25] ?_));clear hK K;refine ab (dR fun K hK => ?_)
   repeat (apply bz; (focus exact rfl); (focus (simp (disch := first | omega | (intros; contradiction)) only [ac, bl, pZ, simprocAttr, ap, bc, b9, bg, ay, if_pos, b6, ca, dt, dr, bq, ba, a8, dw, dx, cq , nt]; exact rfl)))
   refine du rfl ⟨rfl, _, rfl⟩ (by omega) (by first | exact nt) (by simp (disch := first | omega | (intros; contradiction)) only [ac, bl, pZ, simprocAttr, ap, bc, b9, bg, ay, if_pos, b6, ca, dt, dr, bq, ba, a8, dw, dx, cq , nt] <;> exact rfl) (oz true 3 S 95 _ (fun j => inB (gi (bo N v) (gi S j).toNat) 0 ((al : Int) - 1)) (by omega) Xm hclo) ?_;rintro _ rfl
   repeat (apply bz; (focus exact rfl); (focus (simp (disch := first | omega | (intros; contradiction)) only [ac, bl, pZ, simprocAttr, ap, bc, b9, bg, ay, if_pos, b6, ca, dt, dr, bq, ba, a8, dw, dx, cq , nt]; exact rfl)))
   refine aa (hK _ (wK [5, 8, 9, 11, 23, 24, 25, 32] ?_));clear hK K;refine dI ?_ ?_<;>intro hb
   ·have hm : co (cx N al) ord (k + 1) = S ++ [(v : Int)] := by
     have hbb : cx N al v S = false := by simpa [cx] using hb
     rw [hns, if_neg (by rw [hbb]; decide)]
    refine dR fun K hK => ?_;(repeat refine eV ?_);have dK := @ef;refine aa (hK _ (ax [5, 8, 9, 23, 24, 25] ?_));clear hK K;refine dR fun K hK => ?_;(repeat refine eV ?_);have dK := And.intro @bt @hm;refine aa (hK _ ?_);clear hK K;show ∃ x, _ ∧ _ ∧ Weak _ _;refine ⟨k + 1, ?_, ?_, aq [5, 8, 9, 23, 24, 25]⟩
    ·omega
    ·omega
   ·have hm : co (cx N al) ord (k + 1) = S := by
     have hbb : cx N al v S = true := by simpa [cx] using hb
     rw [hns, if_pos hbb]
    refine af ?_;show DW _ _ _ _ _;refine dR fun K hK => ?_;(repeat refine eV ?_);have dK := And.intro @bt @hm;refine aa (hK _ ?_);clear hK K;show ∃ x, _ ∧ _ ∧ Weak _ _;refine ⟨k + 1, ?_, ?_, aq [5, 8, 9, 23, 24, 25]⟩
    ·omega
    ·omega
  ·have hk2 : k = N.ends.length := by
    have : ¬ k < N.ends.length := by simpa using hb
    omega
   rw [hk2];refine ao ?_;refine bb [9] (by simp only [ac, pZ, simprocAttr]; exact rfl) ?_;refine ab (Dp (r := 9) (s := 38) (d := 39) (t := 3) (xs := co (cx N al) ord N.ends.length) rfl rfl rfl rfl rfl rfl rfl rfl (by show 38 < 41; omega) (by show 39 < 41; omega) (by omega) (by omega) hne (by have := n9 (bad := cx N al) (ord := ord) N.ends.length; omega) ?_);refine bb [9] (by simp only [ac, pZ, simprocAttr]; exact rfl) ?_;refine ab (dR fun K hK => ?_);(repeat refine eV ?_);refine aa (hK _ (wK [6, 7] ?_));clear hK K;exact ak (an Tryz.results21 (.two (.own _ _ _ _ rfl rfl (own1 (az _ _))) (.plain _ _ rfl)) (by decide) rfl)
end
section
open Go Go.RowKit
def fl1 (n k : Nat) : List Int := List.replicate k (-1) ++ List.replicate (n - k) 0
theorem P9 (n : Nat) : fl1 n 0 = List.replicate n 0 := rfl
theorem Sn (n : Nat) : fl1 n n = List.replicate n (-1) := by simp [fl1]
theorem Kp {n k : Nat} (h : k ≤ n) : (fl1 n k).length = n := by simp [fl1]; omega
theorem Sm {n k : Nat} (h : k < n) : (fl1 n k).set k (-1) = fl1 n (k + 1) := by
 unfold fl1;rw [List.set_append_right _ _ (by simp), List.length_replicate, Nat.sub_self, show n - k = (n - (k + 1)) + 1 by omega, List.replicate_succ, List.set_cons_zero, List.replicate_succ', List.append_assoc];rfl
theorem R8 {N : Net} {w i : Nat} (h : i < (gl N.ends w).length) : gi (fo N w (gl N.ends w).length) i = (gp (gl N.ends w) i).1 := by
 have hl : i < (fo N w (gl N.ends w).length).length := by rw [sx (Nat.le_refl _)]; exact h
 rw [bm hl, gy h];simp [fo]
theorem Tj (done q : List Nat) (w : Nat) : gi (zI (done ++ w :: q)) done.length = w := by
 simp [gi, zI]
def meFromSt12 : Nat → Stat
 | 0 => ⟨[2], [(2, 1)], [], [35], [], []⟩
 | 1 => ⟨[7], [], [], [36], [], []⟩
 | 2 => ⟨[8], [], [], [37], [], []⟩
 | 3 => ⟨[36, 37], [(7, 1)], [], [38], [], []⟩
 | 4 => ⟨[38], [(7, 2)], [], [39], [], []⟩
 | 5 => ⟨[35, 39], [], [], [40], [], []⟩
 | 6 => ⟨[40], [(40, 1)], [], [41], [], []⟩
 | 7 => ⟨[], [], [], [42], [], []⟩
 | _ => ⟨[], [], [], [], [], []⟩
def zBDms1 := PLift.up (And.intro ap (And.intro bc (And.intro b9 (And.intro bg (And.intro ay (And.intro @if_pos.{1} (And.intro @b6 (And.intro ca (And.intro @dt (And.intro @dr (And.intro @bq (And.intro @ba (And.intro @a8 @trivial)))))))))))))
theorem Vy : type_of% zBDms1.down := zBDms1.down
set_option maxRecDepth 8000 in
set_option maxHeartbeats 0 in
theorem Fi (f : NF) (N : Net) (v : Nat) (hs : Sym N.ends) (hv : v < N.ends.length) (hn : N.ends.length ≤ 1000) (hdg : ∀ a, (gl N.ends a).length ≤ 1000) : DCalls Tryz.prog 174 [.agg (bi f N), .c (.p (.int .i64 v))] (fun r => r = [.own false [.sl true 3 1 ((bo N v).map iC)]]) := by
 have hz := P9 N.ends.length;refine am Tryz.func174 rfl (by rw [Tryz.ntmps174]; simp) fun w0 => ?_;rw [Tryz.ntmps174];have dX := Vy;simp only [b4, bd, Arg.av, bi, b7, ints, ends];refine ab (dR fun K hK => ?_);(repeat refine eV ?_);refine aa (hK _ (wK [1, 2] ?_));clear hK K;refine ab (dR fun K hK => ?_);(repeat refine eV ?_);have dK := And.intro @Nc (Eq.symm hz);refine aa (hK _ (ax [1, 2, 5] ?_));clear hK K;refine ab ?_;have hl0 := Kp (Nat.zero_le N.ends.length);refine ab (dR fun K hK => ?_);(repeat refine eV ?_);have dK := @hl0;refine aa (hK _ (ax [1, 2, 5, 16, 17] ?_));clear hK K;refine ae ?_;refine au (X := Nat) (fun k => k ≤ N.ends.length) (fun k => [(17, .c (.p (.int .i64 k)))]) (fun k => [((5, 0), ⟨none, [.sl true 3 1 ((fl1 N.ends.length k).map iC)]⟩)]) (fun k => N.ends.length - k) 0 (Nat.zero_le _) (by first | rfl | (simp only [ac, pZ, simprocAttr, Int.natCast_zero] <;> rfl)) ?_;rintro k hk;intro E hE;simp only [ac, pZ, simprocAttr] at hE;subst hE;have hlk := Kp hk;refine ab (dR fun K hK => ?_);(repeat refine eV ?_);refine aa (hK _ (wK [1, 2, 5, 16, 17, 18] ?_));clear hK K;refine ab (dI (fun hb => ?_) (fun hb => ?_))
 ·have hkl : k < N.ends.length := by simpa using hb
  have hst := Sm hkl;refine af ?_;show DW _ _ _ _ _;refine ab (ae ?_);refine ab (dR fun K hK => ?_);(repeat refine eV ?_);refine aa (hK _ (wK [1, 2, 5, 6, 16, 17] ?_));clear hK K;refine dR fun K hK => ?_;(repeat refine eV ?_);have dK := And.intro @ug @hst;refine aa (hK _ (ax [1, 2, 5, 16, 17] ?_));clear hK K;refine dR fun K hK => ?_;(repeat refine eV ?_);have dK := @bt;refine aa (hK _ ?_);clear hK K;show ∃ x, _ ∧ _ ∧ Weak _ _;refine ⟨k + 1, ?_, ?_, aq [1, 2, 5, 16, 17]⟩
  ·omega
  ·omega
 ·have hk2 : k = N.ends.length := by
   have : ¬ k < N.ends.length := by simpa using hb
   omega
  subst hk2;have hfa := Sn N.ends.length;refine ao ?_;refine bb [1, 2, 5] (by simp only [ac, pZ, simprocAttr]; exact rfl) ?_;refine ab (dR fun K hK => ?_);(repeat refine eV ?_);have dK := And.intro @ug @hfa;refine aa (hK _ (ax [1, 2, 5] ?_));clear hK K;refine ab (dR fun K hK => ?_);(repeat refine eV ?_);refine aa (hK _ (wK [2, 5, 7] ?_));clear hK K;refine ab ?_;refine ab (dR fun K hK => ?_);(repeat refine eV ?_);refine aa (hK _ (wK [2, 5, 7, 8] ?_));clear hK K;refine ae ?_;refine au (X := List Int × List Nat × List Nat) (fun x => BfsI N v x.1 x.2.1 x.2.2) (fun x => [(8, .c (.p (.int .i64 x.2.1.length)))]) (fun x => [((5, 0), ⟨none, [.sl true 3 1 (x.1.map iC)]⟩), ((7, 0), ⟨none, [.sl true 3 1 ((zI (x.2.1 ++ x.2.2)).map iC)]⟩)]) (fun x => N.ends.length - x.2.1.length) ((List.replicate N.ends.length (-1)).set v 0, [], [v]) (BfsI.start hv) (by first | rfl | (simp only [ac, pZ, simprocAttr, Int.natCast_zero] <;> rfl)) ?_;rintro ⟨out, done, q⟩ hI;intro E hE;simp only [ac, pZ, simprocAttr] at hE;subst hE;dsimp only at hI ⊢;have hzl0 : (zI (done ++ q)).length = done.length + q.length := by simp [zI]
  refine ab ?_;have dX := And.intro dX (@hzl0);refine ab (dR fun K hK => ?_);(repeat refine eV ?_);have dK := @hzl0;refine aa (hK _ (ax [2, 5, 7, 8, 32] ?_));clear hK K;refine dI ?_ ?_<;>intro hb
  ·obtain ⟨w, q, rfl⟩ : ∃ w q', q = w :: q' := by
    cases q with
    | nil => simp at hb
    | cons w q => exact ⟨w, q, rfl⟩
   obtain ⟨hw, hw0⟩ := hI.at0;have hzl : done.length < (zI (done ++ w :: q)).length := by simp [zI]
   have hz1 := Tj done q w;have hdw := hdg w;have hnl := sx (N := N) (v := w) (Nat.le_refl (gl N.ends w).length);have hll := hI.len_le;rw [List.length_cons] at hll;refine af ?_;show DW _ _ _ _ _;refine ab (ae ?_);have dX := And.intro dX (And.intro @meFromSt12.eq_def @hz1);refine ab (fk meFromSt12 (fun j r => match j with | 5 => r = [.own false [.sl true 3 1 ((fo N w (gl N.ends w).length).map iC)]] | _ => True) fun K hK => ?_);(repeat refine dV ?_);have dX := And.intro dX (@meFromSt12.eq_def);refine dcF rfl ⟨rfl, _, rfl⟩ (by omega) (by first | exact Pe) (Fe ⟨false, f.t1, f.o2, f.t2, false, f.t3, false, f.t4⟩ N w hw (by omega)) ?_;rintro _ rfl;(repeat refine dV ?_);have dX := And.intro dX (And.intro @meFromSt12.eq_def @hnl);(repeat refine dV ?_);have dK := @hnl;refine br (hK _ (ax [2, 5, 7, 8, 40, 41, 42] ?_));clear hK K;refine ae ?_;refine au (X := List Int × List Nat × Nat) (fun x => BfsJ N v x.1 done w x.2.1 x.2.2 ∧ x.2.2 ≤ (gl N.ends w).length) (fun x => [(42, .c (.p (.int .i64 x.2.2)))]) (fun x => [((5, 0), ⟨none, [.sl true 3 1 (x.1.map iC)]⟩), ((7, 0), ⟨none, [.sl true 3 1 ((zI (done ++ w :: x.2.1)).map iC)]⟩)]) (fun x => (gl N.ends w).length - x.2.2) (out, q, 0) ⟨hI.pop, Nat.zero_le _⟩ (by first | rfl | (simp only [ac, pZ, simprocAttr, Int.natCast_zero] <;> rfl)) ?_;rintro ⟨o2, q2, i⟩ ⟨hJ, hi⟩;intro E hE;simp only [ac, pZ, simprocAttr] at hE;subst hE;dsimp only at hJ hi ⊢;refine ab (dR fun K hK => ?_);(repeat refine eV ?_);refine aa (hK _ (wK [2, 5, 7, 8, 40, 41, 42, 43] ?_));clear hK K;refine ab (dI (fun hb => ?_) (fun hb => ?_))
   ·have hil : i < (gl N.ends w).length := by simpa [hnl] using hb
    obtain ⟨hx, -, -, -, hgp⟩ := ec hs hw hil;have hg1 : gi (fo N w (gl N.ends w).length) i = ((nd N w i : Nat) : Int) := by rw [R8 hil, hgp]
    have hin : i < (fo N w (gl N.ends w).length).length := by omega
    have hol := hJ.base.len;have hxo : nd N w i < o2.length := by rw [hol]; exact hx
    have hwo : w < o2.length := by rw [hol]; exact hw
    have hb1 := hJ.base.bnd w hw;have hb2 := hJ.base.low w hw;have hb3 := hJ.base.len_le;rw [List.length_cons] at hb3;have hzq : (zI (done ++ w :: q2)).length = done.length + (q2.length + 1) := by simp [zI]
    have hzd : done.length < (zI (done ++ w :: q2)).length := by omega
    have hz2 := Tj done q2 w;have happ : zI (done ++ w :: q2) ++ [((nd N w i : Nat) : Int)] = zI (done ++ w :: (q2 ++ [nd N w i])) := by simp [zI]
    refine af ?_;show DW _ _ _ _ _;refine mi (X := List Int × List Nat) (fun z => BfsJ N v z.1 done w z.2 (i + 1)) (fun z => mkE 68 [(2, .box), (5, .own false 1), (7, .own false 1), (8, .c (.p (.int .i64 (done.length : Int)))), (40, .own false 1), (41, .c (.p (.int .i64 ((gl N.ends w).length : Int)))), (42, .c (.p (.int .i64 i)))] [((2, 0), ⟨some 27, [.sl false f.t1 1 (N.ends.map fun es => [.sl f.o2 f.t2 2 (es.map eC)]), .sl false f.t3 1 (N.ids.map iC), .sl false f.t4 1 (N.inputs.map iC)]⟩), ((5, 0), ⟨none, [.sl true 3 1 (z.1.map iC)]⟩), ((7, 0), ⟨none, [.sl true 3 1 ((zI (done ++ w :: z.2)).map iC)]⟩), ((40, 0), ⟨none, [.sl true 3 1 ((fo N w (gl N.ends w).length).map iC)]⟩)]) ?_ ?_
    ·refine ae ?_;refine ab (dR fun K hK => ?_);(repeat refine eV ?_);have dK := @hg1;refine aa (hK _ (ax [2, 5, 7, 8, 10, 40, 41, 42] ?_));clear hK K;refine ab (dR fun K hK => ?_);(repeat refine eV ?_);refine aa (hK _ (wK [2, 5, 7, 8, 10, 40, 41, 42, 50] ?_));clear hK K;refine dI ?_ ?_<;>intro hb
     ·have h0 : gi o2 (nd N w i) < 0 := by simpa using hb
      have dX := And.intro dX (And.intro @hz2 @Int.toNat_natCast);refine ab (dR fun K hK => ?_);(repeat refine eV ?_);have dK := @ug;refine aa (hK _ (ax [2, 5, 7, 8, 10, 40, 41, 42] ?_));clear hK K;refine dR fun K hK => ?_;(repeat refine eV ?_);refine aa (hK _ ?_);clear hK K;show ∃ x, _ ∧ Weak _ _;refine ⟨(o2.set (nd N w i) (gi o2 w + 1), q2 ++ [nd N w i]), ?_, (ch _ [2, 5, 7, 8, 40, 41, 42]).trans (Weak.of_eq (by simp only [ac, pZ, simprocAttr , ef, happ] <;> exact rfl))⟩;exact hJ.push hs hil h0
     ·have h0 : 0 ≤ gi o2 (nd N w i) := by simpa using hb
      refine af ?_;show ∃ x, _ ∧ Weak _ _;refine ⟨(o2, q2), ?_, (ch _ [2, 5, 7, 8, 40, 41, 42]).trans (Weak.of_eq (by simp only [ac, pZ, simprocAttr] <;> exact rfl))⟩;exact hJ.skip hs hil h0
    ·rintro ⟨o3, q3⟩ hJ3;dsimp only at hJ3 ⊢;refine dR fun K hK => ?_;(repeat refine eV ?_);have dK := @bt;refine aa (hK _ ?_);clear hK K;show ∃ x, _ ∧ _ ∧ Weak _ _;refine ⟨(o3, q3, i + 1), ?_, ?_, aq [2, 5, 7, 8, 40, 41, 42]⟩
     ·exact ⟨hJ3, hil⟩
     ·dsimp only; omega
   ·have hil : i = (gl N.ends w).length := by
     have : ¬ (i : Int) < ((gl N.ends w).length : Int) := by simpa [hnl] using hb
     omega
    subst hil;have hD := hJ.done;have happ : done ++ w :: q2 = (done ++ [w]) ++ q2 := by simp
    have hdl : ((done.length : Int) + 1) = ((done ++ [w]).length : Int) := by simp
    refine ao ?_;refine bb [2, 5, 7, 8] (by simp only [ac, pZ, simprocAttr]; exact rfl) ?_;refine dR fun K hK => ?_;(repeat refine eV ?_);have dK := And.intro @happ @hdl;refine aa (hK _ ?_);clear hK K;show ∃ x, _ ∧ _ ∧ Weak _ _;refine ⟨(o2, done ++ [w], q2), ?_, ?_, aq [2, 5, 7, 8]⟩
    ·exact hD
    ·have := hD.len_le;dsimp only;rw [List.length_append] at this ⊢;simp only [List.length_cons, List.length_nil] at this ⊢;omega
  ·have hq : q = [] := by
    cases q with
    | nil => rfl
    | cons a q => simp at hb; omega
   subst hq;have hdi := hI.dist.eq hs;refine ao ?_;refine bb [5] (by simp only [ac, pZ, simprocAttr]; exact rfl) ?_;refine ab (dR fun K hK => ?_);(repeat refine eV ?_);refine aa (hK _ (wK [4] ?_));clear hK K;exact ak (an Tryz.results174 (.one (.own _ _ _ _ rfl rfl (own1 (az _ _)))) (by decide) (by rw [hdi]))
end
section
set_option maxHeartbeats 0
set_option maxRecDepth 8000
open Go Go.RowKit
def binomialSt10 : Nat → Stat
 | 0 => ⟨[5], [], [], [27], [], []⟩
 | 1 => ⟨[6], [], [], [28], [], []⟩
 | 2 => ⟨[27, 28], [(5, 1)], [], [29], [], []⟩
 | 3 => ⟨[29], [(5, 2)], [], [30], [], []⟩
 | 4 => ⟨[5], [], [], [31], [], []⟩
 | 5 => ⟨[6], [], [], [32], [], []⟩
 | 6 => ⟨[32], [], [], [33], [], []⟩
 | 7 => ⟨[31, 33], [(5, 1)], [], [34], [], []⟩
 | 8 => ⟨[34], [(5, 2)], [], [35], [], []⟩
 | 9 => ⟨[30, 35], [], [], [36], [], []⟩
 | 10 => ⟨[27, 28], [(5, 1)], [], [37], [], []⟩
 | 11 => ⟨[37, 36], [(5, 2)], [], [], [(5, 2)], []⟩
 | _ => ⟨[], [], [], [], [], []⟩
def nuChooseSt11 : Nat → Stat
 | 0 => ⟨[5], [], [], [30], [], []⟩
 | 1 => ⟨[7], [], [], [31], [], []⟩
 | 2 => ⟨[30, 31], [(5, 1)], [], [32], [], []⟩
 | 3 => ⟨[32], [(5, 2)], [], [33], [], []⟩
 | 4 => ⟨[5], [], [], [34], [], []⟩
 | 5 => ⟨[7], [], [], [35], [], []⟩
 | 6 => ⟨[35], [], [], [36], [], []⟩
 | 7 => ⟨[34, 36], [(5, 1)], [], [37], [], []⟩
 | 8 => ⟨[37], [(5, 2)], [], [38], [], []⟩
 | 9 => ⟨[33, 38], [], [], [39], [], []⟩
 | 10 => ⟨[30, 31], [(5, 1)], [], [40], [], []⟩
 | 11 => ⟨[40, 39], [(5, 2)], [], [], [(5, 2)], []⟩
 | _ => ⟨[], [], [], [], [], []⟩
theorem vy {n k : Nat} (hn : n ≤ 14) : bin n k ≤ 16384 := Nat.le_trans (Ja n k) (Nat.pow_le_pow_right (by decide) hn : 2 ^ n ≤ 2 ^ 14)
theorem xi {m k t i : Nat} (hm : m < 14) (hi : i ≤ k) : 0 ≤ gi (pas m k t) i ∧ gi (pas m k t) i ≤ 16384 := by
 rw [yt hi];have h1 := vy (n := m + 1) (k := i) (by omega);have h2 := vy (n := m) (k := i) (by omega);split <;> omega
def zBRb11 := PLift.up (And.intro bc (And.intro b9 (And.intro @if_pos.{1} (And.intro @b6 (And.intro @ba (And.intro @a8 @trivial))))))
theorem Ds : type_of% zBRb11.down := zBRb11.down
theorem zy (n k : Nat) (hk : k ≤ n) (hn : n ≤ 14) : DCalls Tryz.prog 103 [.c (.p (.int .i64 n)), .c (.p (.int .i64 k))] (fun r => r = [.c (.p (.int .i64 (bin n k : Nat)))]) := by
 have c1 : decide ((k : Int) < 0) = false := decide_eq_false (by omega);have c2 : decide ((k : Int) > (n : Int)) = false := decide_eq_false (by omega);have htn : ((k : Int) + 1).toNat = k + 1 := by omega
 obtain ⟨Z, hZ⟩ : ∃ Z, Z = List.replicate (k + 1) (0 : Int) := ⟨_, rfl⟩;have hzr : eb [.int .i64 0] ((k : Int) + 1).toNat = Z.map iC := by rw [Nc, htn, hZ]
 have hd0 : Z.set 0 1 = pas 0 k k := by rw [hZ]; exact (Bo k).symm
 have hrl : Z.length = k + 1 := by rw [hZ]; exact List.length_replicate
 refine am Tryz.func103 rfl (by rw [Tryz.ntmps103]; simp) fun w0 => ?_;rw [Tryz.ntmps103];have dX := Ds;simp only [b4, bd, Arg.av, bi, b7, ints, ends];refine ab (dR fun K hK => ?_);(repeat refine eV ?_);refine aa (hK _ (wK [0, 1] ?_));clear hK K;refine ab ?_;have dX := And.intro dX (And.intro @c1 @c2);refine ab (dR fun K hK => ?_);(repeat refine eV ?_);have dK := And.intro @c1 @c2;refine aa (hK _ (ax [0, 1, 13] ?_));clear hK K;refine dI ?_ ?_<;>intro hb
 ·cases hb
 ·refine af ?_;show DW _ _ _ _ _;have dX := And.intro dX (@hzr);refine ab (dR fun K hK => ?_);(repeat refine eV ?_);have dK := @hzr;refine aa (hK _ (ax [0, 1, 5] ?_));clear hK K;refine ab (dR fun K hK => ?_);(repeat refine eV ?_);have dK := And.intro @ug @hd0;refine aa (hK _ (ax [0, 1, 5] ?_));clear hK K;refine ab ?_;refine ab (dR fun K hK => ?_);(repeat refine eV ?_);refine aa (hK _ (wK [1, 5, 19, 20] ?_));clear hK K;refine ae ?_;refine au (X := Nat) (fun m => m ≤ n) (fun m => [(20, .c (.p (.int .i64 m)))]) (fun m => [((5, 0), ⟨none, [.sl true 3 1 ((pas m k k).map iC)]⟩)]) (fun m => n - m) 0 (Nat.zero_le _) (by first | rfl | (simp only [ac, pZ, simprocAttr, Int.natCast_zero] <;> rfl)) ?_;rintro m hm;intro E hE;simp only [ac, pZ, simprocAttr] at hE;subst hE;refine ab (dR fun K hK => ?_);(repeat refine eV ?_);refine aa (hK _ (wK [1, 5, 19, 20, 21] ?_));clear hK K;refine ab (dI (fun hb => ?_) (fun hb => ?_))
  ·have hm1 : m < n := by simpa using hb
   refine af ?_;show DW _ _ _ _ _;refine ab (ae ?_);refine ab (dR fun K hK => ?_);(repeat refine eV ?_);refine aa (hK _ (wK [1, 5, 6, 19, 20] ?_));clear hK K;refine ae ?_;refine au (X := Nat) (fun t => t ≤ k) (fun t => [(6, .c (.p (.int .i64 t)))]) (fun t => [((5, 0), ⟨none, [.sl true 3 1 ((pas m k t).map iC)]⟩)]) (fun t => t) k (Nat.le_refl _) (by first | rfl | (simp only [ac, pZ, simprocAttr, Int.natCast_zero] <;> rfl)) ?_;rintro t ht;intro E hE;simp only [ac, pZ, simprocAttr] at hE;subst hE;refine ab ?_;refine ab (dR fun K hK => ?_);(repeat refine eV ?_);refine aa (hK _ (wK [1, 5, 6, 19, 20, 24] ?_));clear hK K;refine dI ?_ ?_<;>intro hb
   ·have ht0 : 0 < t := by
     have h : (t : Int) > 0 := by simpa using hb
     omega
    have htc : (t : Int) - 1 = ((t - 1 : Nat) : Int) := by omega
    have hset := Ey (m := m) ht0 ht;have hb1 := xi (m := m) (t := t) (by omega : m < 14) ht;have hb2 := xi (m := m) (t := t) (i := t - 1) (by omega : m < 14) (by omega : t - 1 ≤ k);have hpl := su m k t;obtain ⟨R, hR⟩ : ∃ R, R = pas m k t := ⟨_, rfl⟩;rw [← hR] at hset hb1 hb2 hpl ⊢;refine af ?_;show DW _ _ _ _ _;refine ab (ae ?_);have dX := And.intro dX (And.intro @binomialSt10.eq_def (And.intro @htc @Int.toNat_natCast));refine fk binomialSt10 (fun j r => True) fun K hK => ?_;(repeat refine dV ?_);have dK := And.intro @ug @hset;refine br (hK _ (ax [1, 5, 6, 19, 20] ?_));clear hK K;refine dR fun K hK => ?_;(repeat refine eV ?_);have dK := @htc;refine aa (hK _ ?_);clear hK K;show ∃ x, _ ∧ _ ∧ Weak _ _;refine ⟨t - 1, ?_, ?_, aq [1, 5, 6, 19, 20]⟩
    ·omega
    ·omega
   ·have ht0 : t = 0 := by
     have h : ¬ (t : Int) > 0 := by simpa using hb
     omega
    have hnx : pas m k t = pas (m + 1) k k := by rw [ht0]; exact Ez m k
    refine ao ?_;refine bb [1, 5, 19, 20] (by simp only [ac, pZ, simprocAttr]; exact rfl) ?_;refine dR fun K hK => ?_;(repeat refine eV ?_);have dK := And.intro @bt @hnx;refine aa (hK _ ?_);clear hK K;show ∃ x, _ ∧ _ ∧ Weak _ _;refine ⟨m + 1, ?_, ?_, aq [1, 5, 19, 20]⟩
    ·omega
    ·omega
  ·have hm2 : m = n := by
    have : ¬ m < n := by simpa using hb
    omega
   have hpl := su m k k;have hfin : gi (pas m k k) k = ((bin n k : Nat) : Int) := by rw [yt (Nat.le_refl k), if_neg (Nat.lt_irrefl k), hm2]
   refine ao ?_;refine bb [1, 5] (by simp only [ac, pZ, simprocAttr]; exact rfl) ?_;have dX := And.intro dX (@Int.toNat_natCast);refine ab (dR fun K hK => ?_);(repeat refine eV ?_);have dK := @Int.toNat_natCast;refine aa (hK _ (ax [4] ?_));clear hK K;exact ak (an Tryz.results103 (.one (.plain _ _ rfl)) (by decide) (by rw [hfin]))
theorem yw (n k : Nat) (hk : k ≤ n) (hn : n ≤ 14) : DCalls Tryz.prog 106 [.c (.p (.int .i64 n)), .c (.p (.int .i64 k))] (fun r => r = [.c (.p (.int .i64 (bin n k : Nat)))]) := by
 have c1 : decide ((k : Int) < 0) = false := decide_eq_false (by omega);have c2 : decide ((k : Int) > (n : Int)) = false := decide_eq_false (by omega);have htn : ((n : Int) + 1).toNat = n + 1 := by omega
 obtain ⟨Z, hZ⟩ : ∃ Z, Z = List.replicate (n + 1) (0 : Int) := ⟨_, rfl⟩;have hzr : eb [.int .i64 0] ((n : Int) + 1).toNat = Z.map iC := by rw [Nc, htn, hZ]
 have hd0 : Z.set 0 1 = pas (1 - 1) n n := by rw [hZ]; exact (Bo n).symm
 have hrl : Z.length = n + 1 := by rw [hZ]; exact List.length_replicate
 have h1c : ((1 : Nat) : Int) = 1 := rfl;refine am Tryz.func106 rfl (by rw [Tryz.ntmps106]; simp) fun w0 => ?_;rw [Tryz.ntmps106];have dX := Ds;simp only [b4, bd, Arg.av, bi, b7, ints, ends];refine ab (dR fun K hK => ?_);(repeat refine eV ?_);refine aa (hK _ (wK [0, 1] ?_));clear hK K;refine ab ?_;have dX := And.intro dX (And.intro @c1 @c2);refine ab (dR fun K hK => ?_);(repeat refine eV ?_);have dK := And.intro @c1 @c2;refine aa (hK _ (ax [0, 1, 14] ?_));clear hK K;refine dI ?_ ?_<;>intro hb
 ·cases hb
 ·refine af ?_;show DW _ _ _ _ _;have dX := And.intro dX (@hzr);refine ab (dR fun K hK => ?_);(repeat refine eV ?_);have dK := @hzr;refine aa (hK _ (ax [0, 1, 5] ?_));clear hK K;refine ab (dR fun K hK => ?_);(repeat refine eV ?_);have dK := And.intro @ug @hd0;refine aa (hK _ (ax [0, 1, 5] ?_));clear hK K;refine ab ?_;refine ab (dR fun K hK => ?_);(repeat refine eV ?_);refine aa (hK _ (wK [0, 1, 5, 6] ?_));clear hK K;refine ae ?_;refine au (X := Nat) (fun m => 1 ≤ m ∧ m ≤ n + 1) (fun m => [(6, .c (.p (.int .i64 m)))]) (fun m => [((5, 0), ⟨none, [.sl true 3 1 ((pas (m - 1) n n).map iC)]⟩)]) (fun m => n + 1 - m) 1 ⟨Nat.le_refl 1, by omega⟩ (by first | rfl | (simp only [ac, pZ, simprocAttr, Int.natCast_zero, h1c] <;> rfl)) ?_;rintro m ⟨hm0, hm⟩;intro E hE;simp only [ac, pZ, simprocAttr] at hE;subst hE;refine ab ?_;refine ab (dR fun K hK => ?_);(repeat refine eV ?_);refine aa (hK _ (wK [0, 1, 5, 6, 22] ?_));clear hK K;refine dI ?_ ?_<;>intro hb
  ·have hm1 : m ≤ n := by
    have h : (m : Int) ≤ (n : Int) := by simpa using hb
    omega
   have hpf : pas (m - 1) n n = pas (m - 1) n m := R1 (by omega) (by omega);rw [hpf];refine af ?_;show DW _ _ _ _ _;refine ab (ae ?_);refine ab (dR fun K hK => ?_);(repeat refine eV ?_);refine aa (hK _ (wK [0, 1, 5, 6, 7] ?_));clear hK K;refine ae ?_;refine au (X := Nat) (fun t => t ≤ m) (fun t => [(7, .c (.p (.int .i64 t)))]) (fun t => [((5, 0), ⟨none, [.sl true 3 1 ((pas (m - 1) n t).map iC)]⟩)]) (fun t => t) m (Nat.le_refl _) (by first | rfl | (simp only [ac, pZ, simprocAttr, Int.natCast_zero] <;> rfl)) ?_;rintro t ht;intro E hE;simp only [ac, pZ, simprocAttr] at hE;subst hE;refine ab ?_;refine ab (dR fun K hK => ?_);(repeat refine eV ?_);refine aa (hK _ (wK [0, 1, 5, 6, 7, 27] ?_));clear hK K;refine dI ?_ ?_<;>intro hb
   ·have ht0 : 0 < t := by
     have h : (t : Int) > 0 := by simpa using hb
     omega
    have htc : (t : Int) - 1 = ((t - 1 : Nat) : Int) := by omega
    have hset := Ey (m := m - 1) ht0 (by omega : t ≤ n);have hb1 := xi (m := m - 1) (t := t) (by omega : m - 1 < 14) (by omega : t ≤ n);have hb2 := xi (m := m - 1) (t := t) (i := t - 1) (by omega : m - 1 < 14) (by omega : t - 1 ≤ n);have hpl := su (m - 1) n t;obtain ⟨R, hR⟩ : ∃ R, R = pas (m - 1) n t := ⟨_, rfl⟩;rw [← hR] at hset hb1 hb2 hpl ⊢;refine af ?_;show DW _ _ _ _ _;refine ab (ae ?_);have dX := And.intro dX (And.intro @nuChooseSt11.eq_def (And.intro @htc @Int.toNat_natCast));refine fk nuChooseSt11 (fun j r => True) fun K hK => ?_;(repeat refine dV ?_);have dK := And.intro @ug @hset;refine br (hK _ (ax [0, 1, 5, 6, 7] ?_));clear hK K;refine dR fun K hK => ?_;(repeat refine eV ?_);have dK := @htc;refine aa (hK _ ?_);clear hK K;show ∃ x, _ ∧ _ ∧ Weak _ _;refine ⟨t - 1, ?_, ?_, aq [0, 1, 5, 6, 7]⟩
    ·omega
    ·omega
   ·have ht0 : t = 0 := by
     have h : ¬ (t : Int) > 0 := by simpa using hb
     omega
    have hnx : pas (m - 1) n t = pas (m + 1 - 1) n n := by
     rw [ht0, Ez, show m - 1 + 1 = m + 1 - 1 by omega]
    refine ao ?_;refine bb [0, 1, 5, 6] (by simp only [ac, pZ, simprocAttr]; exact rfl) ?_;refine dR fun K hK => ?_;(repeat refine eV ?_);have dK := And.intro @bt @hnx;refine aa (hK _ ?_);clear hK K;show ∃ x, _ ∧ _ ∧ Weak _ _;refine ⟨m + 1, ?_, ?_, aq [0, 1, 5, 6]⟩
    ·omega
    ·omega
  ·have hm2 : m = n + 1 := by
    have h : ¬ (m : Int) ≤ (n : Int) := by simpa using hb
    omega
   have hpl := su (m - 1) n n;have hfin : gi (pas (m - 1) n n) k = ((bin n k : Nat) : Int) := by rw [yt hk, if_neg (by omega), show m - 1 = n by omega]
   refine ao ?_;refine bb [1, 5] (by simp only [ac, pZ, simprocAttr]; exact rfl) ?_;have dX := And.intro dX (@Int.toNat_natCast);refine ab (dR fun K hK => ?_);(repeat refine eV ?_);have dK := @Int.toNat_natCast;refine aa (hK _ (ax [4] ?_));clear hK K;exact ak (an Tryz.results106 (.one (.plain _ _ rfl)) (by decide) (by rw [hfin]))
def SubI (n k r : Nat) (z : Nat × List Int × Nat) : Prop := z.2.1 ++ sbs (n - z.1) z.1 (k - z.2.1.length) z.2.2 = sbs n 0 k r ∧ z.2.1.length ≤ k ∧ z.1 ≤ n ∧ z.2.2 < bin (n - z.1) (k - z.2.1.length)
theorem SubI.start {n k r : Nat} (hr : r < bin n k) : SubI n k r (0, [], r) := ⟨rfl, Nat.zero_le _, Nat.zero_le _, hr⟩
theorem SubI.lt {n k r x q : Nat} {out : List Int} (h : SubI n k r (x, out, q)) (hl : out.length < k) : x < n ∧ k - out.length - 1 ≤ n - x - 1 := by
 obtain ⟨h1, h2, h3, h4⟩ := h;dsimp only at h1 h2 h3 h4
 by_cases hx : n - x < k - out.length
 ·rw [jh hx] at h4; omega
 ·omega
theorem SubI.open {n k r x q : Nat} {out : List Int} (h : SubI n k r (x, out, q)) (hl : out.length < k) : sbs (n - x) x (k - out.length) q = (if q < bin (n - x - 1) (k - out.length - 1) then (x : Int) :: sbs (n - x - 1) (x + 1) (k - out.length - 1) q else sbs (n - x - 1) (x + 1) (k - out.length) (q - bin (n - x - 1) (k - out.length - 1))) ∧ bin (n - x) (k - out.length) = bin (n - x - 1) (k - out.length - 1) + bin (n - x - 1) (k - out.length) := by
 obtain ⟨g1, -⟩ := h.lt hl;obtain ⟨d, hd⟩ : ∃ d, n - x = d + 1 := ⟨n - x - 1, by omega⟩;obtain ⟨j, hj⟩ : ∃ j, k - out.length = j + 1 := ⟨k - out.length - 1, by omega⟩;rw [hd, hj, Nat.add_sub_cancel, Nat.add_sub_cancel];exact ⟨by rw [sbs], by rw [bin]⟩
theorem SubI.take {n k r x q : Nat} {out : List Int} (h : SubI n k r (x, out, q)) (hl : out.length < k) (hq : q < bin (n - x - 1) (k - out.length - 1)) : SubI n k r (x + 1, out ++ [(x : Int)], q) := by
 obtain ⟨g1, g2⟩ := h.lt hl;obtain ⟨g3, -⟩ := h.open hl;obtain ⟨h1, h2, h3, h4⟩ := h;dsimp only at h1 h2 h3 h4;rw [g3, if_pos hq] at h1;refine ⟨?_, ?_, ?_, ?_⟩
 ·dsimp only;rw [List.length_append, List.length_singleton, show n - (x + 1) = n - x - 1 by omega, show k - (out.length + 1) = k - out.length - 1 by omega, List.append_assoc];exact h1
 ·dsimp only; rw [List.length_append, List.length_singleton]; omega
 ·dsimp only; omega
 ·dsimp only;rw [List.length_append, List.length_singleton, show n - (x + 1) = n - x - 1 by omega, show k - (out.length + 1) = k - out.length - 1 by omega];exact hq
theorem SubI.pass {n k r x q : Nat} {out : List Int} (h : SubI n k r (x, out, q)) (hl : out.length < k) (hq : ¬ q < bin (n - x - 1) (k - out.length - 1)) : SubI n k r (x + 1, out, q - bin (n - x - 1) (k - out.length - 1)) := by
 obtain ⟨g1, g2⟩ := h.lt hl;obtain ⟨g3, g4⟩ := h.open hl;obtain ⟨h1, h2, h3, h4⟩ := h;dsimp only at h1 h2 h3 h4;rw [g3, if_neg hq] at h1;refine ⟨?_, h2, ?_, ?_⟩
 ·dsimp only;rw [show n - (x + 1) = n - x - 1 by omega];exact h1
 ·dsimp only; omega
 ·dsimp only;rw [show n - (x + 1) = n - x - 1 by omega];omega
theorem SubI.done {n k r x q : Nat} {out : List Int} (h : SubI n k r (x, out, q)) (hl : ¬ out.length < k) : out = sbs n 0 k r := by
 obtain ⟨h1, h2, h3, h4⟩ := h;dsimp only at h1 h2 h3 h4;rw [show k - out.length = 0 by omega, se, List.append_nil] at h1;exact h1
theorem Hg (n k r : Nat) (hr : r < bin n k) (hn : n ≤ 14) : DCalls Tryz.prog 104 [.c (.p (.int .i64 n)), .c (.p (.int .i64 k)), .c (.p (.int .i64 r))] (fun rr => rr = [.own false [.sl true 3 1 ((sbs n 0 k r).map iC)]]) := by
 have hkn : k ≤ n := by
  by_cases h : n < k
  ·rw [jh h] at hr; omega
  ·omega
 refine am Tryz.func104 rfl (by rw [Tryz.ntmps104]; simp) fun w0 => ?_;rw [Tryz.ntmps104];have dX := Ds;simp only [b4, bd, Arg.av, bi, b7, ints, ends];refine ab (dR fun K hK => ?_);(repeat refine eV ?_);refine aa (hK _ (wK [0, 1, 2] ?_));clear hK K;refine ab (dR fun K hK => ?_);(repeat refine eV ?_);refine aa (hK _ (wK [0, 1, 2, 7] ?_));clear hK K;refine ab ?_;refine ab (dR fun K hK => ?_);(repeat refine eV ?_);refine aa (hK _ (wK [0, 1, 2, 7, 8] ?_));clear hK K;refine ae ?_;refine ei 7 3 1 (by decide) (by simp only [ac, pZ, simprocAttr]) [0, 1, 2, 7, 8] (by simp only [ac, pZ, simprocAttr]; exact rfl) ?_;refine au (X := Nat × List Int × Nat) (fun z => SubI n k r z) (fun z => [(2, .c (.p (.int .i64 z.2.2))), (8, .c (.p (.int .i64 z.1)))]) (fun z => [((7, 0), ⟨none, [.sl true 3 1 (z.2.1.map iC)]⟩)]) (fun z => n - z.1) (0, [], r) (SubI.start hr) (by first | rfl | (simp only [ac, pZ, simprocAttr, Int.natCast_zero] <;> rfl)) ?_;rintro ⟨x, out, q⟩ hI;intro E hE;simp only [ac, pZ, simprocAttr] at hE;subst hE;dsimp only at hI ⊢;have hlk : out.length ≤ k := hI.2.1;refine ab ?_;refine ab (dR fun K hK => ?_);(repeat refine eV ?_);refine aa (hK _ (wK [0, 1, 2, 7, 8, 13] ?_));clear hK K;refine dI ?_ ?_<;>intro hb
 ·have hl : out.length < k := by simpa using hb
  obtain ⟨hx1, hx2⟩ := hI.lt hl;have e1 : (n : Int) - (x : Int) - 1 = ((n - x - 1 : Nat) : Int) := by omega
  have e2 : (k : Int) - (out.length : Int) - 1 = ((k - out.length - 1 : Nat) : Int) := by omega
  have hbl := vy (n := n - x - 1) (k := k - out.length - 1) (by omega);have htk := hI.take hl;have hps := hI.pass hl;have hql : q < bin (n - x) (k - out.length) := hI.2.2.2;have hql2 := vy (n := n - x) (k := k - out.length) (by omega);refine af ?_;show DW _ _ _ _ _;refine ab (ae ?_);have dX := And.intro dX (And.intro @e1 @e2);refine ab (dR fun K hK => ?_);(repeat refine eV ?_);have dX := And.intro dX (And.intro @e1 @e2);refine cL rfl ⟨rfl, _, rfl⟩ (by omega) (by first | exact Pt) (zy (n - x - 1) (k - out.length - 1) hx2 (by omega)) ?_;rintro _ rfl;(repeat refine eV ?_);refine aa (hK _ (wK [0, 1, 2, 7, 8, 9] ?_));clear hK K;obtain ⟨B, hB⟩ : ∃ B, B = bin (n - x - 1) (k - out.length - 1) := ⟨_, rfl⟩;rw [← hB] at htk hps hbl ⊢;refine ab (dR fun K hK => ?_);(repeat refine eV ?_);refine aa (hK _ (wK [0, 1, 2, 7, 8, 9, 28] ?_));clear hK K;refine dI ?_ ?_<;>intro hb
  ·have hq : q < B := by simpa using hb
   refine dR fun K hK => ?_;(repeat refine eV ?_);have dK := @ef;refine aa (hK _ (ax [0, 1, 2, 7, 8] ?_));clear hK K;refine dR fun K hK => ?_;(repeat refine eV ?_);have dK := @bt;refine aa (hK _ ?_);clear hK K;show ∃ x, _ ∧ _ ∧ Weak _ _;refine ⟨(x + 1, out ++ [(x : Int)], q), ?_, ?_, aq [0, 1, 2, 7, 8]⟩
   ·exact htk hq
   ·dsimp only; omega
  ·have hq : ¬ q < B := by simpa using hb
   have e3 : (q : Int) - (B : Int) = ((q - B : Nat) : Int) := by omega
   have dX := And.intro dX (@e3);refine dR fun K hK => ?_;(repeat refine eV ?_);have dK := @e3;refine aa (hK _ (ax [0, 1, 2, 7, 8] ?_));clear hK K;refine dR fun K hK => ?_;(repeat refine eV ?_);have dK := @bt;refine aa (hK _ ?_);clear hK K;show ∃ x, _ ∧ _ ∧ Weak _ _;refine ⟨(x + 1, out, q - B), ?_, ?_, aq [0, 1, 2, 7, 8]⟩
   ·exact hps hq
   ·dsimp only; omega
 ·have hl : ¬ out.length < k := by simpa using hb
  have hdn := hI.done hl;refine ao ?_;refine bb [7] (by simp only [ac, pZ, simprocAttr]; exact rfl) ?_;refine ab (dR fun K hK => ?_);(repeat refine eV ?_);refine aa (hK _ (wK [6] ?_));clear hK K;exact ak (an Tryz.results104 (.one (.own _ _ _ _ rfl rfl (own1 (az _ _)))) (by decide) (by rw [hdn]))
theorem Uw (n k r : Nat) (hr : r < bin n k) (hn : n ≤ 14) : DCalls Tryz.prog 107 [.c (.p (.int .i64 n)), .c (.p (.int .i64 k)), .c (.p (.int .i64 r))] (fun rr => rr = [.own false [.sl true 3 1 ((sbs n 0 k r).map iC)]]) := by
 have hkn : k ≤ n := by
  by_cases h : n < k
  ·rw [jh h] at hr; omega
  ·omega
 refine am Tryz.func107 rfl (by rw [Tryz.ntmps107]; simp) fun w0 => ?_;rw [Tryz.ntmps107];have dX := Ds;simp only [b4, bd, Arg.av, bi, b7, ints, ends];refine ab (dR fun K hK => ?_);(repeat refine eV ?_);refine aa (hK _ (wK [0, 1, 2] ?_));clear hK K;refine ab (dR fun K hK => ?_);(repeat refine eV ?_);refine aa (hK _ (wK [0, 1, 2, 7] ?_));clear hK K;refine ab ?_;refine ab (dR fun K hK => ?_);(repeat refine eV ?_);refine aa (hK _ (wK [0, 1, 2, 7, 8] ?_));clear hK K;refine ae ?_;refine ei 7 3 1 (by decide) (by simp only [ac, pZ, simprocAttr]) [0, 1, 2, 7, 8] (by simp only [ac, pZ, simprocAttr]; exact rfl) ?_;refine au (X := Nat × List Int × Nat) (fun z => SubI n k r z) (fun z => [(2, .c (.p (.int .i64 z.2.2))), (8, .c (.p (.int .i64 z.1)))]) (fun z => [((7, 0), ⟨none, [.sl true 3 1 (z.2.1.map iC)]⟩)]) (fun z => n - z.1) (0, [], r) (SubI.start hr) (by first | rfl | (simp only [ac, pZ, simprocAttr, Int.natCast_zero] <;> rfl)) ?_;rintro ⟨x, out, q⟩ hI;intro E hE;simp only [ac, pZ, simprocAttr] at hE;subst hE;dsimp only at hI ⊢;have hlk : out.length ≤ k := hI.2.1;refine ab ?_;refine ab (dR fun K hK => ?_);(repeat refine eV ?_);refine aa (hK _ (wK [0, 1, 2, 7, 8, 13] ?_));clear hK K;refine dI ?_ ?_<;>intro hb
 ·have hl : out.length < k := by simpa using hb
  obtain ⟨hx1, hx2⟩ := hI.lt hl;have e1 : (n : Int) - (x : Int) - 1 = ((n - x - 1 : Nat) : Int) := by omega
  have e2 : (k : Int) - (out.length : Int) - 1 = ((k - out.length - 1 : Nat) : Int) := by omega
  have hbl := vy (n := n - x - 1) (k := k - out.length - 1) (by omega);have htk := hI.take hl;have hps := hI.pass hl;have hql : q < bin (n - x) (k - out.length) := hI.2.2.2;have hql2 := vy (n := n - x) (k := k - out.length) (by omega);refine af ?_;show DW _ _ _ _ _;refine ab (ae ?_);have dX := And.intro dX (And.intro @e1 @e2);refine ab (dR fun K hK => ?_);(repeat refine eV ?_);have dX := And.intro dX (And.intro @e1 @e2);refine cL rfl ⟨rfl, _, rfl⟩ (by omega) (by first | exact Pr) (yw (n - x - 1) (k - out.length - 1) hx2 (by omega)) ?_;rintro _ rfl;(repeat refine eV ?_);refine aa (hK _ (wK [0, 1, 2, 7, 8, 9] ?_));clear hK K;obtain ⟨B, hB⟩ : ∃ B, B = bin (n - x - 1) (k - out.length - 1) := ⟨_, rfl⟩;rw [← hB] at htk hps hbl ⊢;refine ab (dR fun K hK => ?_);(repeat refine eV ?_);refine aa (hK _ (wK [0, 1, 2, 7, 8, 9, 28] ?_));clear hK K;refine dI ?_ ?_<;>intro hb
  ·have hq : q < B := by simpa using hb
   refine dR fun K hK => ?_;(repeat refine eV ?_);have dK := @ef;refine aa (hK _ (ax [0, 1, 2, 7, 8] ?_));clear hK K;refine dR fun K hK => ?_;(repeat refine eV ?_);have dK := @bt;refine aa (hK _ ?_);clear hK K;show ∃ x, _ ∧ _ ∧ Weak _ _;refine ⟨(x + 1, out ++ [(x : Int)], q), ?_, ?_, aq [0, 1, 2, 7, 8]⟩
   ·exact htk hq
   ·dsimp only; omega
  ·have hq : ¬ q < B := by simpa using hb
   have e3 : (q : Int) - (B : Int) = ((q - B : Nat) : Int) := by omega
   have dX := And.intro dX (@e3);refine dR fun K hK => ?_;(repeat refine eV ?_);have dK := @e3;refine aa (hK _ (ax [0, 1, 2, 7, 8] ?_));clear hK K;refine dR fun K hK => ?_;(repeat refine eV ?_);have dK := @bt;refine aa (hK _ ?_);clear hK K;show ∃ x, _ ∧ _ ∧ Weak _ _;refine ⟨(x + 1, out, q - B), ?_, ?_, aq [0, 1, 2, 7, 8]⟩
   ·exact hps hq
   ·dsimp only; omega
 ·have hl : ¬ out.length < k := by simpa using hb
  have hdn := hI.done hl;refine ao ?_;refine bb [7] (by simp only [ac, pZ, simprocAttr]; exact rfl) ?_;refine ab (dR fun K hK => ?_);(repeat refine eV ?_);refine aa (hK _ (wK [6] ?_));clear hK K;exact ak (an Tryz.results107 (.one (.own _ _ _ _ rfl rfl (own1 (az _ _)))) (by decide) (by rw [hdn]))
end
end Go.Proofs.YtolpiolnhgpjjaaGreat
