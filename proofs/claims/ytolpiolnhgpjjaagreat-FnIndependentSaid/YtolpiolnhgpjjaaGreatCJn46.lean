/- Parts of the proof. -/
import Derived.Test.YtolpiolnhgpjjaaGreatCDix
import Derived.Test.YtolpiolnhgpjjaaGreatCJn31
import Derived.Test.YtolpiolnhgpjjaaGreatCMtr2
import Derived.Test.YtolpiolnhgpjjaaGreatCJn25
import Derived.Test.YtolpiolnhgpjjaaGreatCJn41
import Derived.Test.YtolpiolnhgpjjaaGreatCJn29
import Derived.Test.YtolpiolnhgpjjaaGreatCJn27
import Derived.Test.YtolpiolnhgpjjaaGreatCDmm
import Derived.Test.YtolpiolnhgpjjaaGreatCJn38
import Derived.Test.YtolpiolnhgpjjaaGreatCJn9
set_option linter.unusedSimpArgs false
set_option linter.unusedVariables false
namespace Go.Proofs.YtolpiolnhgpjjaaGreat
section
open Go Go.RowKit
theorem dz {N : Net} (hg : bn N = true) : Sym N.ends ∧ (1 ≤ N.ends.length ∧ N.ends.length ≤ 40) ∧ N.ids.length ≤ 2097152 ∧ ∀ a, (gl N.ends a).length ≤ 1000 := by
 have hn := Io hg;refine ⟨(K0 hg).sym, hn, by have := R1 hg; omega, fun a => ?_⟩
 rcases Nat.lt_or_ge a N.ends.length with h | h
 ·have := R2 hg h; omega
 ·have : gl N.ends a = [] := by unfold gl; rw [List.getD_eq_getElem?_getD, List.getElem?_eq_none h]; rfl
  rw [this]; simp
end
section
open Go Go.RowKit
theorem zp (o : Bool) (t : TypeId) (xs : List Int) (n : Nat) (hn : n ≤ 1048576) : DCalls Tryz.prog 63 [.c (.sl o t 1 (xs.map iC)), .c (.p (.int .i64 n))] (fun r => r = [.c (.p (.bool (ff xs n)))]) := iv fun w vs h1 h2 => by
 obtain ⟨u, v, rfl, g1, g2⟩ := Vi h1 h2;rw [yn g2];exact wz u xs n w (lj g1) hn
theorem xt (N : Net) (v : Nat) : ik N v (gl N.ends v).length = (gl N.ends v).map Prod.fst := by simp [ik]
theorem B2 {xs : List Int} {x : Int} : 0 ≤ zr xs x ↔ x ∈ xs := by
 unfold zr
 rcases K5 xs.length fun j => gi xs j == x with ⟨h1, h2⟩ | ⟨m, h1, h2, h3, -⟩
 ·rw [h1];refine ⟨fun h => absurd h (by decide), fun h => ?_⟩;obtain ⟨j, hj, rfl⟩ := List.getElem_of_mem h;have := h2 j hj;rw [bo hj] at this;simp at this
 ·rw [h1];refine ⟨fun _ => ?_, fun _ => by omega⟩;have h3 : gi xs m = x := by simpa using h3
  rw [← h3, bo h2];exact List.getElem_mem h2
end
section
set_option maxHeartbeats 0
set_option maxRecDepth 8000
open Go Go.RowKit
def qC (e : Int × Int × Int × Int) : List C := [.p (.int .i64 e.1), .p (.int .i64 e.2.1), .p (.int .i64 e.2.2.1), .p (.int .i64 e.2.2.2)]
def gq (L : List (Int × Int × Int × Int)) (k : Nat) : Int × Int × Int × Int := L.getD k (0, 0, 0, 0)
theorem zc {L : List (Int × Int × Int × Int)} {k : Nat} (h : k < L.length) : gq L k = L[k] := by simp [gq, h]
theorem L7 (xs : List (Int × Int × Int × Int)) (a b c d : Int) : xs.map qC ++ [[C.p (.int .i64 a), C.p (.int .i64 b), C.p (.int .i64 c), C.p (.int .i64 d)]] = (xs ++ [(a, b, c, d)]).map qC := by simp [qC]
theorem Ed {L : List (Int × Int × Int × Int)} {k : Nat} (h : k < L.length) : (L.map qC).getD k [] = [.p (.int .i64 (gq L k).1), .p (.int .i64 (gq L k).2.1), .p (.int .i64 (gq L k).2.2.1), .p (.int .i64 (gq L k).2.2.2)] := by
 rw [List.getD_eq_getElem?_getD, List.getElem?_map, List.getElem?_eq_getElem h, zc h]; rfl
theorem Q4 (t : TypeId) (L : List (Int × Int × Int × Int)) : (C.sl true t 4 (L.map qC)).owned := qp fun r hr c hc => by
 obtain ⟨e, -, rfl⟩ := List.mem_map.1 hr;simp only [qC, List.mem_cons, List.not_mem_nil, or_false] at hc
 rcases hc with rfl | rfl | rfl | rfl <;> exact Fk _
def edP (N : Net) (k i : Nat) : Bool := decide ((k : Int) < (gp (gl N.ends k) i).1) || (((k : Int) == (gp (gl N.ends k) i).1) && decide ((i : Int) ≤ (gp (gl N.ends k) i).2))
def edN (N : Net) (k : Nat) : Nat → List (Int × Int × Int × Int)
 | 0 => []
 | i + 1 => if edP N k i = true then edN N k i ++ [((k : Int), (i : Int), (gp (gl N.ends k) i).1, (gp (gl N.ends k) i).2)] else edN N k i
def edL (N : Net) : Nat → List (Int × Int × Int × Int)
 | 0 => []
 | k + 1 => edL N k ++ edN N k (gl N.ends k).length
theorem Ga (N : Net) (k : Nat) : ∀ i, (edN N k i).length ≤ i
 | 0 => Nat.le_refl _
 | i + 1 => by
  have := Ga N k i;rw [edN];split
  ·simp; omega
  ·omega
theorem sq (N : Net) (hd : ∀ a, (gl N.ends a).length ≤ 1000) : ∀ k, (edL N k).length ≤ k * 1000
 | 0 => by simp [edL]
 | k + 1 => by
  have h1 := sq N hd k;have h2 := Ga N k (gl N.ends k).length;have h3 := hd k;rw [edL, List.length_append];omega
theorem F9 {N : Net} {k : Nat} : ∀ {i : Nat} {e : Int × Int × Int × Int}, e ∈ edN N k i → ∃ j, j < i ∧ edP N k j = true ∧ e = ((k : Int), (j : Int), (gp (gl N.ends k) j).1, (gp (gl N.ends k) j).2)
 | 0, e, h => by cases h
 | i + 1, e, h => by
  rw [edN] at h;split at h
  ·rename_i hp
   rcases List.mem_append.1 h with h | h
   ·obtain ⟨j, h1, h2⟩ := F9 h; exact ⟨j, by omega, h2⟩
   ·exact ⟨i, by omega, hp, by simpa using h⟩
  ·obtain ⟨j, h1, h2⟩ := F9 h; exact ⟨j, by omega, h2⟩
theorem xb {N : Net} : ∀ {n : Nat} {e : Int × Int × Int × Int}, e ∈ edL N n → ∃ k j, k < n ∧ j < (gl N.ends k).length ∧ edP N k j = true ∧ e = ((k : Int), (j : Int), (gp (gl N.ends k) j).1, (gp (gl N.ends k) j).2)
 | 0, e, h => by cases h
 | n + 1, e, h => by
  rw [edL] at h
  rcases List.mem_append.1 h with h | h
  ·obtain ⟨k, j, h1, h2⟩ := xb h; exact ⟨k, j, by omega, h2⟩
  ·obtain ⟨j, h1, h2⟩ := F9 h; exact ⟨n, j, by omega, h1, h2⟩
def zBDeq1 := PLift.up (And.intro an (And.intro aq (And.intro bh (And.intro a6 (And.intro am (And.intro @if_pos.{1} (And.intro @be (And.intro aw (And.intro @bg (And.intro @bf (And.intro @ax (And.intro @ao (And.intro @ap (And.intro cz (And.intro c9 (And.intro @Ed @trivial))))))))))))))))
theorem Lg : type_of% zBDeq1.down := zBDeq1.down
theorem F8 (f : NF) (N : Net) (hn : N.ends.length ≤ 1000) (hdg : ∀ a, (gl N.ends a).length ≤ 1000) : DCalls Tryz.prog 76 [.agg (bw f N)] (fun r => r = [.own false [.sl true 78 4 ((edL N N.ends.length).map qC)]]) := by
 refine au Tryz.func76 rfl (by rw [Tryz.ntmps76]; simp) fun w0 => ?_;rw [Tryz.ntmps76];have dX := Lg;simp only [ce, bm, Arg.av, bw, cm, ints, ends];refine ab (dR fun K hK => ?_);(repeat refine eV ?_);refine aa (hK _ (wK [1] ?_));clear hK K;refine ab (dR fun K hK => ?_);(repeat refine eV ?_);refine aa (hK _ (wK [1, 3] ?_));clear hK K;refine ab ?_;refine ab (dR fun K hK => ?_);(repeat refine eV ?_);refine aa (hK _ (wK [3, 9, 10, 11] ?_));clear hK K;refine af ?_;refine ev 3 78 4 (by decide) (by simp only [ac, pZ, simprocAttr]) [3, 9, 10, 11] (by simp only [ac, pZ, simprocAttr]; exact rfl) ?_;refine ba (X := Nat) (fun k => k ≤ N.ends.length) (fun k => [(11, .c (.p (.int .i64 k)))]) (fun k => [((3, 0), ⟨none, [.sl true 78 4 ((edL N k).map qC)]⟩)]) (fun k => N.ends.length - k) 0 (Nat.zero_le _) (by first | rfl | (simp only [ac, pZ, simprocAttr, Int.natCast_zero] <;> rfl)) ?_;rintro k hk;intro E hE;simp only [ac, pZ, simprocAttr] at hE;subst hE;refine ab (dR fun K hK => ?_);(repeat refine eV ?_);refine aa (hK _ (wK [3, 9, 10, 11, 12] ?_));clear hK K;refine ab (dI (fun hb => ?_) (fun hb => ?_))
 ·have hk1 : k < N.ends.length := by simpa using hb
  have hdk := hdg k;have hel := sq N hdg k;have hk3 : k * 1000 ≤ 1000 * 1000 := Nat.mul_le_mul_right _ (by omega);refine ae ?_;show DW _ _ _ _ _;refine ab (af ?_);have dX := And.intro dX (@Int.toNat_natCast);refine ab (dR fun K hK => ?_);(repeat refine eV ?_);refine aa (hK _ (wK [3, 4, 5, 9, 10, 11] ?_));clear hK K;refine ab (dR fun K hK => ?_);(repeat refine eV ?_);refine aa (hK _ (wK [3, 4, 9, 10, 11, 16, 17, 18] ?_));clear hK K;refine af ?_;refine ba (X := Nat) (fun i => i ≤ (gl N.ends k).length) (fun i => [(18, .c (.p (.int .i64 i)))]) (fun i => [((3, 0), ⟨none, [.sl true 78 4 ((edL N k ++ edN N k i).map qC)]⟩)]) (fun i => (gl N.ends k).length - i) 0 (Nat.zero_le _) (by first | rfl | (simp only [ac, pZ, simprocAttr, Int.natCast_zero, edN, List.append_nil] <;> rfl)) ?_;rintro i hi;intro E hE;simp only [ac, pZ, simprocAttr] at hE;subst hE;have hnl := Ga N k i;have hll : (edL N k ++ edN N k i).length ≤ 1000 * 1000 + 1000 := by rw [List.length_append]; omega
  refine ab (dR fun K hK => ?_);(repeat refine eV ?_);refine aa (hK _ (wK [3, 4, 9, 10, 11, 16, 17, 18, 19] ?_));clear hK K;refine ab (dI (fun hb => ?_) (fun hb => ?_))
  ·have hi1 : i < (gl N.ends k).length := by simpa using hb
   have hyes : edP N k i = true → edL N k ++ edN N k (i + 1) = (edL N k ++ edN N k i) ++ [((k : Int), (i : Int), (gp (gl N.ends k) i).1, (gp (gl N.ends k) i).2)] := fun h => by rw [edN, if_pos h, List.append_assoc]
   have hno : edP N k i = false → edL N k ++ edN N k (i + 1) = edL N k ++ edN N k i := fun h => by rw [edN, if_neg (by rw [h]; decide)]
   refine ae ?_;show DW _ _ _ _ _;refine ab (af ?_);refine ab (dR fun K hK => ?_);(repeat refine eV ?_);refine aa (hK _ (wK [3, 4, 6, 7, 9, 10, 11, 16, 17, 18] ?_));clear hK K;obtain h1 | h1 := Bool.eq_false_or_eq_true (decide ((k : Int) < (gp (gl N.ends k) i).1))
   ·have hm := hyes (by unfold edP; rw [h1]; rfl);have dX := And.intro dX (@h1);refine ab (dR fun K hK => ?_);(repeat refine eV ?_);have dK := @h1;refine aa (hK _ (a8 [3, 4, 6, 7, 9, 10, 11, 16, 17, 18, 38] ?_));clear hK K;refine dI ?_ ?_<;>intro hb
    ·refine dR fun K hK => ?_;(repeat refine eV ?_);have dK := @L7;refine aa (hK _ (a8 [3, 4, 9, 10, 11, 16, 17, 18] ?_));clear hK K;refine dR fun K hK => ?_;(repeat refine eV ?_);have dK := And.intro @bq @hm;refine aa (hK _ ?_);clear hK K;show ∃ x, _ ∧ _ ∧ Weak _ _;refine ⟨i + 1, ?_, ?_, a7 [3, 4, 9, 10, 11, 16, 17, 18]⟩
     ·omega
     ·omega
    ·cases hb
   ·obtain h2 | h2 := Bool.eq_false_or_eq_true ((k : Int) == (gp (gl N.ends k) i).1)
    ·obtain h3 | h3 := Bool.eq_false_or_eq_true (decide ((i : Int) ≤ (gp (gl N.ends k) i).2))
     ·have hm := hyes (by unfold edP; rw [h1, h2, h3]; rfl);have dX := And.intro dX (And.intro @h1 (And.intro @h2 @h3));refine ab (dR fun K hK => ?_);(repeat refine eV ?_);have dK := And.intro @h1 (And.intro @h2 @h3);refine aa (hK _ (a8 [3, 4, 6, 7, 9, 10, 11, 16, 17, 18, 38] ?_));clear hK K;refine dI ?_ ?_<;>intro hb
      ·refine dR fun K hK => ?_;(repeat refine eV ?_);have dK := @L7;refine aa (hK _ (a8 [3, 4, 9, 10, 11, 16, 17, 18] ?_));clear hK K;refine dR fun K hK => ?_;(repeat refine eV ?_);have dK := And.intro @bq @hm;refine aa (hK _ ?_);clear hK K;show ∃ x, _ ∧ _ ∧ Weak _ _;refine ⟨i + 1, ?_, ?_, a7 [3, 4, 9, 10, 11, 16, 17, 18]⟩
       ·omega
       ·omega
      ·cases hb
     ·have hm := hno (by unfold edP; rw [h1, h2, h3]; rfl);have dX := And.intro dX (And.intro @h1 (And.intro @h2 @h3));refine ab (dR fun K hK => ?_);(repeat refine eV ?_);have dK := And.intro @h1 (And.intro @h2 @h3);refine aa (hK _ (a8 [3, 4, 6, 7, 9, 10, 11, 16, 17, 18, 38] ?_));clear hK K;refine dI ?_ ?_<;>intro hb
      ·cases hb
      ·refine ae ?_;show DW _ _ _ _ _;refine dR fun K hK => ?_;(repeat refine eV ?_);have dK := And.intro @bq @hm;refine aa (hK _ ?_);clear hK K;show ∃ x, _ ∧ _ ∧ Weak _ _;refine ⟨i + 1, ?_, ?_, a7 [3, 4, 9, 10, 11, 16, 17, 18]⟩
       ·omega
       ·omega
    ·have hm := hno (by unfold edP; rw [h1, h2]; rfl);have dX := And.intro dX (And.intro @h1 @h2);refine ab (dR fun K hK => ?_);(repeat refine eV ?_);have dK := And.intro @h1 @h2;refine aa (hK _ (a8 [3, 4, 6, 7, 9, 10, 11, 16, 17, 18, 38] ?_));clear hK K;refine dI ?_ ?_<;>intro hb
     ·cases hb
     ·refine ae ?_;show DW _ _ _ _ _;refine dR fun K hK => ?_;(repeat refine eV ?_);have dK := And.intro @bq @hm;refine aa (hK _ ?_);clear hK K;show ∃ x, _ ∧ _ ∧ Weak _ _;refine ⟨i + 1, ?_, ?_, a7 [3, 4, 9, 10, 11, 16, 17, 18]⟩
      ·omega
      ·omega
  ·have hi2 : i = (gl N.ends k).length := by
    have : ¬ i < (gl N.ends k).length := by simpa using hb
    omega
   have hm : edL N (k + 1) = edL N k ++ edN N k i := by rw [hi2]; rfl
   refine ay ?_;refine bi [3, 9, 10, 11] (by simp only [ac, pZ, simprocAttr]; exact rfl) ?_;refine dR fun K hK => ?_;(repeat refine eV ?_);have dK := And.intro @bq @hm;refine aa (hK _ ?_);clear hK K;show ∃ x, _ ∧ _ ∧ Weak _ _;refine ⟨k + 1, ?_, ?_, a7 [3, 9, 10, 11]⟩
   ·omega
   ·omega
 ·have hk2 : k = N.ends.length := by
   have : ¬ k < N.ends.length := by simpa using hb
   omega
  refine ay ?_;refine bi [3] (by simp only [ac, pZ, simprocAttr]; exact rfl) ?_;refine ab (dR fun K hK => ?_);(repeat refine eV ?_);refine aa (hK _ (wK [2] ?_));clear hK K;exact aj (al Tryz.results76 (.one (.own _ _ _ _ rfl rfl (own1 (Q4 _ _)))) (by decide) (by rw [hk2]))
theorem Gv (o : Bool) (t : TypeId) (es : List (Int × Int × Int × Int)) (g : FuncId) (css : List (List C)) (b : Nat → Bool) (hl : es.length ≤ 1000000) (hm : ak Tryz.prog g = true) (hg : ∀ j, j < es.length → DCalls Tryz.prog g ([.agg (qC (gq es j))] ++ css.map .rp) (fun r => r = [.c (.p (.bool (b j)))])) : DCalls Tryz.prog 159 [.c (.sl o t 4 (es.map qC)), .fn g css] (fun r => r = [.c (.p (.int .i64 (rj es.length b)))]) := by
 refine au Tryz.func159 rfl (by rw [Tryz.ntmps159]; simp) fun w0 => ?_;rw [Tryz.ntmps159];have dX := Lg;simp only [ce, bm, Arg.av, bw, cm, ints, ends];refine ab (dR fun K hK => ?_);(repeat refine eV ?_);refine aa (hK _ (wK [0, 1] ?_));clear hK K;refine ab ?_;refine ab (dR fun K hK => ?_);(repeat refine eV ?_);refine aa (hK _ (wK [0, 1, 7, 8] ?_));clear hK K;refine af ?_;refine ba (X := Nat) (fun k => k ≤ es.length ∧ ∀ j, j < k → b j = false) (fun k => [(8, .c (.p (.int .i64 k)))]) (fun k => []) (fun k => es.length - k) 0 ⟨Nat.zero_le _, fun j hj => by simp at hj⟩ (by first | rfl | (simp only [ac, pZ, simprocAttr, Int.natCast_zero] <;> rfl)) ?_;rintro k ⟨hk, hne⟩;intro E hE;simp only [ac, pZ, simprocAttr] at hE;subst hE;refine ab (dR fun K hK => ?_);(repeat refine eV ?_);refine aa (hK _ (wK [0, 1, 7, 8, 9] ?_));clear hK K;refine ab (dI (fun hb => ?_) (fun hb => ?_))
 ·have hkl : k < es.length := by simpa using hb
  refine ae ?_;show DW _ _ _ _ _;refine ab (af ?_);refine ab (dR fun K hK => ?_);(repeat refine eV ?_);refine aa (hK _ (wK [0, 1, 5, 7, 8] ?_));clear hK K;refine ab (dR fun K hK => ?_);(repeat refine eV ?_);refine na rfl ⟨rfl, _, rfl⟩ (by omega) (by simp (disch := first | omega | (intros; contradiction)) only [ac, az, pZ, simprocAttr, an, aq, bh, a6, am, if_pos, be, aw, bg, bf, ax, ao, ap, cz, c9, Ed] <;> exact rfl) (by first | assumption) (by simp (disch := first | omega | (intros; contradiction)) only [ac, az, pZ, simprocAttr, an, aq, bh, a6, am, if_pos, be, aw, bg, bf, ax, ao, ap, cz, c9, Ed] <;> exact rfl) (hg k hkl) ?_;rintro _ rfl;(repeat refine eV ?_);refine aa (hK _ (wK [0, 1, 5, 7, 8, 16] ?_));clear hK K;refine dI ?_ ?_<;>intro hb
  ·have hi : rj es.length b = k := sk hkl hb hne;refine ab (dR fun K hK => ?_);(repeat refine eV ?_);refine aa (hK _ (wK [4] ?_));clear hK K;exact aj (al Tryz.results159 (.one (.plain _ _ rfl)) (by decide) (by rw [hi]))
  ·refine ae ?_;show DW _ _ _ _ _;refine dR fun K hK => ?_;(repeat refine eV ?_);have dK := @bq;refine aa (hK _ ?_);clear hK K;show ∃ x, _ ∧ _ ∧ Weak _ _;refine ⟨k + 1, ?_, ?_, a7 [0, 1, 7, 8]⟩
   ·refine ⟨hkl, fun j hj => ?_⟩
    rcases Nat.lt_or_ge j k with h | h
    ·exact hne j h
    ·obtain rfl : j = k := by omega
     exact hb
   ·omega
 ·have hkl : k = es.length := by
   have : ¬ (k : Int) < (es.length : Int) := by simpa using hb
   omega
  subst hkl;have hi : rj es.length b = -1 := sn hne;refine ay ?_;refine bi [] (by simp only [ac, pZ, simprocAttr]; exact rfl) ?_;refine ab (dR fun K hK => ?_);(repeat refine eV ?_);refine aa (hK _ (wK [4] ?_));clear hK K;exact aj (al Tryz.results159 (.one (.plain _ _ rfl)) (by decide) (by rw [hi]))
theorem la (o : Bool) (t : TypeId) (es : List (Int × Int × Int × Int)) (g : FuncId) (css : List (List C)) (b : Nat → Bool) (hl : es.length ≤ 1000000) (hm : ak Tryz.prog g = true) (hg : ∀ j, j < es.length → DCalls Tryz.prog g ([.agg (qC (gq es j))] ++ css.map .rp) (fun r => r = [.c (.p (.bool (b j)))])) : DCalls Tryz.prog 75 [.c (.sl o t 4 (es.map qC)), .fn g css] (fun r => r = [.c (.p (.bool (pn es.length b)))]) := by
 refine au Tryz.func75 rfl (by rw [Tryz.ntmps75]; simp) fun w0 => ?_;rw [Tryz.ntmps75];have dX := Lg;simp only [ce, bm, Arg.av, bw, cm, ints, ends];refine ab (dR fun K hK => ?_);(repeat refine eV ?_);refine aa (hK _ (wK [0, 1] ?_));clear hK K;refine ab (dR fun K hK => ?_)
 repeat (apply bj; (focus exact rfl); (focus (simp (disch := first | omega | (intros; contradiction)) only [ac, az, pZ, simprocAttr, an, aq, bh, a6, am, if_pos, be, aw, bg, bf, ax, ao, ap, cz, c9, Ed , Fo]; exact rfl)))
 refine cu rfl ⟨rfl, _, rfl⟩ (by omega) (by first | exact Fo) (by simp (disch := first | omega | (intros; contradiction)) only [ac, az, pZ, simprocAttr, an, aq, bh, a6, am, if_pos, be, aw, bg, bf, ax, ao, ap, cz, c9, Ed , Fo] <;> exact rfl) (Gv o t es g css b hl hm hg) ?_;rintro _ rfl
 repeat (apply bj; (focus exact rfl); (focus (simp (disch := first | omega | (intros; contradiction)) only [ac, az, pZ, simprocAttr, an, aq, bh, a6, am, if_pos, be, aw, bg, bf, ax, ao, ap, cz, c9, Ed , Fo]; exact rfl)))
 refine aa (hK _ (wK [4] ?_));clear hK K;exact aj (al Tryz.results75 (.one (.plain _ _ rfl)) (by decide) (by rw [← F4]))
end
section
open Go Go.RowKit
def zBDme51 := PLift.up (And.intro an (And.intro aq (And.intro bh (And.intro a6 (And.intro am (And.intro @if_pos.{1} (And.intro @be (And.intro aw (And.intro @bg (And.intro @bf (And.intro @ax (And.intro @ao (And.intro @ap @trivial)))))))))))))
theorem Uh : type_of% zBDme51.down := zBDme51.down
set_option maxRecDepth 8000 in
set_option maxHeartbeats 0 in
theorem Gw (o : Bool) (t : TypeId) (es : List (Int × Int)) (g : FuncId) (css : List (List C)) (b : Nat → Bool) (hl : es.length ≤ 1000000) (hm : ak Tryz.prog g = true) (hg : ∀ j, j < es.length → DCalls Tryz.prog g ([.agg (eC (gp es j))] ++ css.map .rp) (fun r => r = [.c (.p (.bool (b j)))])) : DCalls Tryz.prog 193 [.c (.sl o t 2 (es.map eC)), .fn g css] (fun r => r = [.c (.p (.int .i64 (rj es.length b)))]) := by
 refine au Tryz.func193 rfl (by rw [Tryz.ntmps193]; simp) fun w0 => ?_;rw [Tryz.ntmps193];have dX := Uh;simp only [ce, bm, Arg.av, bw, cm, ints, ends];refine ab (dR fun K hK => ?_);(repeat refine eV ?_);refine aa (hK _ (wK [0, 1] ?_));clear hK K;refine ab ?_;refine ab (dR fun K hK => ?_);(repeat refine eV ?_);refine aa (hK _ (wK [0, 1, 7, 8] ?_));clear hK K;refine af ?_;refine ba (X := Nat) (fun k => k ≤ es.length ∧ ∀ j, j < k → b j = false) (fun k => [(8, .c (.p (.int .i64 k)))]) (fun k => []) (fun k => es.length - k) 0 ⟨Nat.zero_le _, fun j hj => by simp at hj⟩ (by first | rfl | (simp only [ac, pZ, simprocAttr, Int.natCast_zero] <;> rfl)) ?_;rintro k ⟨hk, hne⟩;intro E hE;simp only [ac, pZ, simprocAttr] at hE;subst hE;refine ab (dR fun K hK => ?_);(repeat refine eV ?_);refine aa (hK _ (wK [0, 1, 7, 8, 9] ?_));clear hK K;refine ab (dI (fun hb => ?_) (fun hb => ?_))
 ·have hkl : k < es.length := by simpa using hb
  refine ae ?_;show DW _ _ _ _ _;refine ab (af ?_);refine ab (dR fun K hK => ?_);(repeat refine eV ?_);refine aa (hK _ (wK [0, 1, 5, 7, 8] ?_));clear hK K;refine ab (dR fun K hK => ?_);(repeat refine eV ?_);refine na rfl ⟨rfl, _, rfl⟩ (by omega) (by simp (disch := first | omega | (intros; contradiction)) only [ac, az, pZ, simprocAttr, an, aq, bh, a6, am, if_pos, be, aw, bg, bf, ax, ao, ap] <;> exact rfl) (by first | assumption) (by simp (disch := first | omega | (intros; contradiction)) only [ac, az, pZ, simprocAttr, an, aq, bh, a6, am, if_pos, be, aw, bg, bf, ax, ao, ap] <;> exact rfl) (hg k hkl) ?_;rintro _ rfl;(repeat refine eV ?_);refine aa (hK _ (wK [0, 1, 5, 7, 8, 16] ?_));clear hK K;refine dI ?_ ?_<;>intro hb
  ·have hi : rj es.length b = k := sk hkl hb hne;refine ab (dR fun K hK => ?_);(repeat refine eV ?_);refine aa (hK _ (wK [4] ?_));clear hK K;exact aj (al Tryz.results193 (.one (.plain _ _ rfl)) (by decide) (by rw [hi]))
  ·refine ae ?_;show DW _ _ _ _ _;refine dR fun K hK => ?_;(repeat refine eV ?_);have dK := @bq;refine aa (hK _ ?_);clear hK K;show ∃ x, _ ∧ _ ∧ Weak _ _;refine ⟨k + 1, ?_, ?_, a7 [0, 1, 7, 8]⟩
   ·refine ⟨hkl, fun j hj => ?_⟩
    rcases Nat.lt_or_ge j k with h | h
    ·exact hne j h
    ·obtain rfl : j = k := by omega
     exact hb
   ·omega
 ·have hkl : k = es.length := by
   have : ¬ (k : Int) < (es.length : Int) := by simpa using hb
   omega
  subst hkl;have hi : rj es.length b = -1 := sn hne;refine ay ?_;refine bi [] (by simp only [ac, pZ, simprocAttr]; exact rfl) ?_;refine ab (dR fun K hK => ?_);(repeat refine eV ?_);refine aa (hK _ (wK [4] ?_));clear hK K;exact aj (al Tryz.results193 (.one (.plain _ _ rfl)) (by decide) (by rw [hi]))
end
section
set_option maxHeartbeats 0
set_option maxRecDepth 8000
open Go Go.RowKit
def zBDgs1 := PLift.up (And.intro an (And.intro aq (And.intro bh (And.intro a6 (And.intro am (And.intro @if_pos.{1} (And.intro @be (And.intro aw (And.intro @bg (And.intro @bf (And.intro @ax (And.intro @ao (And.intro @ap (And.intro dh (And.intro @dk (And.intro @cl @trivial))))))))))))))))
theorem Cf : type_of% zBDgs1.down := zBDgs1.down
theorem lb (o : Bool) (t : TypeId) (es : List (Int × Int)) (g : FuncId) (css : List (List C)) (b : Nat → Bool) (hl : es.length ≤ 1000000) (hm : ak Tryz.prog g = true) (hg : ∀ j, j < es.length → DCalls Tryz.prog g ([.agg (eC (gp es j))] ++ css.map .rp) (fun r => r = [.c (.p (.bool (b j)))])) : DCalls Tryz.prog 146 [.c (.sl o t 2 (es.map eC)), .fn g css] (fun r => r = [.c (.p (.bool (pn es.length b)))]) := by
 refine au Tryz.func146 rfl (by rw [Tryz.ntmps146]; simp) fun w0 => ?_;rw [Tryz.ntmps146];have dX := Cf;simp only [ce, bm, Arg.av, bw, cm, ints, ends];refine ab (dR fun K hK => ?_);(repeat refine eV ?_);refine aa (hK _ (wK [0, 1] ?_));clear hK K;refine ab (dR fun K hK => ?_)
 repeat (apply bj; (focus exact rfl); (focus (simp (disch := first | omega | (intros; contradiction)) only [ac, az, pZ, simprocAttr, an, aq, bh, a6, am, if_pos, be, aw, bg, bf, ax, ao, ap, dh, dk, cl , Fl]; exact rfl)))
 refine cu rfl ⟨rfl, _, rfl⟩ (by omega) (by first | exact Fl) (by simp (disch := first | omega | (intros; contradiction)) only [ac, az, pZ, simprocAttr, an, aq, bh, a6, am, if_pos, be, aw, bg, bf, ax, ao, ap, dh, dk, cl , Fl] <;> exact rfl) (Gw o t es g css b hl hm hg) ?_;rintro _ rfl
 repeat (apply bj; (focus exact rfl); (focus (simp (disch := first | omega | (intros; contradiction)) only [ac, az, pZ, simprocAttr, an, aq, bh, a6, am, if_pos, be, aw, bg, bf, ax, ao, ap, dh, dk, cl , Fl]; exact rfl)))
 refine aa (hK _ (wK [4] ?_));clear hK K;exact aj (al Tryz.results146 (.one (.plain _ _ rfl)) (by decide) (by rw [← F4]))
theorem Gm (e : Int × Int) (u : Int) : DCalls Tryz.prog 154 [.agg (eC e), .rp [.p (.int .i64 u)]] (fun r => r = [.c (.p (.bool (e.1 == u)))]) := by
 refine au Tryz.func154 rfl (by rw [Tryz.ntmps154]; simp) fun w0 => ?_;rw [Tryz.ntmps154];have dX := Cf;simp only [ce, bm, Arg.av, bw, cm, ints, ends, eC];refine ab (dR fun K hK => ?_);(repeat refine eV ?_);refine aa (hK _ (wK [1, 2] ?_));clear hK K;refine ab (dR fun K hK => ?_);(repeat refine eV ?_);refine aa (hK _ (wK [3] ?_));clear hK K;exact aj (al Tryz.results154 (.one (.plain _ _ rfl)) (by decide) rfl)
theorem Kw (e : Int × Int) (o : Bool) (t : TypeId) (s : List Int) (hl : s.length ≤ 1000000) : DCalls Tryz.prog 155 [.agg (eC e), .rp [.sl o t 1 (s.map iC)]] (fun r => r = [.c (.p (.bool (decide (0 ≤ zr s e.1))))]) := by
 refine au Tryz.func155 rfl (by rw [Tryz.ntmps155]; simp) fun w0 => ?_;rw [Tryz.ntmps155];have dX := Cf;simp only [ce, bm, Arg.av, bw, cm, ints, ends, eC];refine ab (dR fun K hK => ?_);(repeat refine eV ?_);refine aa (hK _ (wK [1, 2] ?_));clear hK K;refine ab (dR fun K hK => ?_)
 repeat (apply bj; (focus exact rfl); (focus (simp (disch := first | omega | (intros; contradiction)) only [ac, az, pZ, simprocAttr, an, aq, bh, a6, am, if_pos, be, aw, bg, bf, ax, ao, ap, dh, dk, cl , dt]; exact rfl)))
 refine cu rfl ⟨rfl, _, rfl⟩ (by omega) (by first | exact dt) (by simp (disch := first | omega | (intros; contradiction)) only [ac, az, pZ, simprocAttr, an, aq, bh, a6, am, if_pos, be, aw, bg, bf, ax, ao, ap, dh, dk, cl , dt] <;> exact rfl) (jg o t s e.1 hl) ?_;rintro _ rfl
 repeat (apply bj; (focus exact rfl); (focus (simp (disch := first | omega | (intros; contradiction)) only [ac, az, pZ, simprocAttr, an, aq, bh, a6, am, if_pos, be, aw, bg, bf, ax, ao, ap, dh, dk, cl , dt]; exact rfl)))
 refine aa (hK _ (wK [3] ?_));clear hK K;exact aj (al Tryz.results155 (.one (.plain _ _ rfl)) (by decide) rfl)
def b8 (N : Net) (v : Nat) (u : Int) : Bool := pn (gl N.ends v).length fun j => (gp (gl N.ends v) j).1 == u
def dq (N : Net) (v : Nat) (s : List Int) : Bool := pn (gl N.ends v).length fun j => decide (0 ≤ zr s (gp (gl N.ends v) j).1)
theorem ry (f : NF) (N : Net) (v : Nat) (u : Int) (hg : bn N = true) (hv : v < N.ends.length) : DCalls Tryz.prog 67 [.agg (bw f N), .c (.p (.int .i64 v)), .c (.p (.int .i64 u))] (fun r => r = [.c (.p (.bool (b8 N v u)))]) := by
 obtain ⟨hs, hn, hids, hdg⟩ := dz hg;have hd := hdg v;refine au Tryz.func67 rfl (by rw [Tryz.ntmps67]; simp) fun w0 => ?_;rw [Tryz.ntmps67];have dX := Cf;simp only [ce, bm, Arg.av, bw, cm, ints, ends];refine ab (dR fun K hK => ?_);(repeat refine eV ?_);refine aa (hK _ (wK [1, 3, 5] ?_));clear hK K;refine ab (dR fun K hK => ?_)
 repeat (apply bj; (focus exact rfl); (focus (simp (disch := first | omega | (intros; contradiction)) only [ac, az, pZ, simprocAttr, an, aq, bh, a6, am, if_pos, be, aw, bg, bf, ax, ao, ap, dh, dk, cl , kx, Int.toNat_natCast]; exact rfl)))
 refine cu rfl ⟨rfl, _, rfl⟩ (by omega) (by first | exact kx) (by simp (disch := first | omega | (intros; contradiction)) only [ac, az, pZ, simprocAttr, an, aq, bh, a6, am, if_pos, be, aw, bg, bf, ax, ao, ap, dh, dk, cl , kx] <;> exact rfl) (lb f.o2 f.t2 (gl N.ends v) 154 [[.p (.int .i64 u)]] (fun j => (gp (gl N.ends v) j).1 == u) (by omega) Wj fun j _ => Gm (gp (gl N.ends v) j) u) ?_;rintro _ rfl
 repeat (apply bj; (focus exact rfl); (focus (simp (disch := first | omega | (intros; contradiction)) only [ac, az, pZ, simprocAttr, an, aq, bh, a6, am, if_pos, be, aw, bg, bf, ax, ao, ap, dh, dk, cl , kx]; exact rfl)))
 refine aa (hK _ (wK [6] ?_));clear hK K;exact aj (al Tryz.results67 (.one (.plain _ _ rfl)) (by decide) rfl)
theorem yd (f : NF) (N : Net) (v : Nat) (o : Bool) (t : TypeId) (s : List Int) (hg : bn N = true) (hv : v < N.ends.length) (hl : s.length ≤ 1000000) : DCalls Tryz.prog 68 [.agg (bw f N), .c (.p (.int .i64 v)), .c (.sl o t 1 (s.map iC))] (fun r => r = [.c (.p (.bool (dq N v s)))]) := by
 obtain ⟨hs, hn, hids, hdg⟩ := dz hg;have hd := hdg v;refine au Tryz.func68 rfl (by rw [Tryz.ntmps68]; simp) fun w0 => ?_;rw [Tryz.ntmps68];have dX := Cf;simp only [ce, bm, Arg.av, bw, cm, ints, ends];refine ab (dR fun K hK => ?_);(repeat refine eV ?_);refine aa (hK _ (wK [1, 3, 5] ?_));clear hK K;refine ab (dR fun K hK => ?_)
 repeat (apply bj; (focus exact rfl); (focus (simp (disch := first | omega | (intros; contradiction)) only [ac, az, pZ, simprocAttr, an, aq, bh, a6, am, if_pos, be, aw, bg, bf, ax, ao, ap, dh, dk, cl , kx, Int.toNat_natCast]; exact rfl)))
 refine cu rfl ⟨rfl, _, rfl⟩ (by omega) (by first | exact kx) (by simp (disch := first | omega | (intros; contradiction)) only [ac, az, pZ, simprocAttr, an, aq, bh, a6, am, if_pos, be, aw, bg, bf, ax, ao, ap, dh, dk, cl , kx] <;> exact rfl) (lb f.o2 f.t2 (gl N.ends v) 155 [[.sl false t 1 (s.map iC)]] (fun j => decide (0 ≤ zr s (gp (gl N.ends v) j).1)) (by omega) Wi fun j _ => Kw (gp (gl N.ends v) j) false t s hl) ?_;rintro _ rfl
 repeat (apply bj; (focus exact rfl); (focus (simp (disch := first | omega | (intros; contradiction)) only [ac, az, pZ, simprocAttr, an, aq, bh, a6, am, if_pos, be, aw, bg, bf, ax, ao, ap, dh, dk, cl , kx]; exact rfl)))
 refine aa (hK _ (wK [6] ?_));clear hK K;exact aj (al Tryz.results68 (.one (.plain _ _ rfl)) (by decide) rfl)
def dm (N : Net) (v : Nat) (s : List Int) : Bool := b8 N v v || dq N v s
end
section
open Go Go.RowKit
theorem Ty (o : Bool) (t : TypeId) (xs : List Int) (lo hi : Int) : DCalls Tryz.prog 151 [.c (.sl o t 1 (xs.map iC)), .c (.p (.int .i64 lo)), .c (.p (.int .i64 hi))] (fun r => r = [.c (.p (.bool (ol xs lo hi)))]) := iv fun w vs h1 h2 => by
 obtain ⟨u, v, t2, rfl, g1, g2, g3⟩ := Ni h1 h2;rw [yn g2, yn g3];exact (D5 u xs lo hi w (lj g1)).mono fun _ _ h => RetQ.v h
end
section
theorem H6 {N : Net} {u m j : Nat} (hm : m = (gl N.ends u).length) (hj : j < m) : gi (ik N u m) j = (gp (gl N.ends u) j).1 := by
 have h1 : j < (ik N u m).length := by unfold ik; simp; omega
 rw [bo h1, jv (by omega)];simp [ik]
end
end Go.Proofs.YtolpiolnhgpjjaaGreat
