/- Parts of the proof. -/
import Derived.Test.YtolpiolnhgpjjaaGreatCDix
import Derived.Test.YtolpiolnhgpjjaaGreatCJn28
import Derived.Test.YtolpiolnhgpjjaaGreatCMtr2
import Derived.Test.YtolpiolnhgpjjaaGreatCJn24
import Derived.Test.YtolpiolnhgpjjaaGreatCJn6
import Derived.Test.YtolpiolnhgpjjaaGreatCJn30
import Derived.Test.YtolpiolnhgpjjaaGreatCJn8
import Derived.Test.YtolpiolnhgpjjaaGreatCJn26
import Derived.Test.YtolpiolnhgpjjaaGreatCJn21
import Derived.Test.YtolpiolnhgpjjaaGreatCShelf
import Derived.Test.YtolpiolnhgpjjaaGreatCJn33
set_option linter.unusedSimpArgs false
set_option linter.unusedVariables false
namespace Go.Proofs.YtolpiolnhgpjjaaGreat
section
open Go Go.RowKit
theorem fe {N : Net} (hg : bm N = true) : Sym N.ends ∧ (1 ≤ N.ends.length ∧ N.ends.length ≤ 40) ∧ N.ids.length ≤ 2097152 ∧ ∀ a, (gl N.ends a).length ≤ 1000 := by
 have hn := Ey hg;refine ⟨(Hc hg).sym, hn, by have := Ox hg; omega, fun a => ?_⟩
 rcases Nat.lt_or_ge a N.ends.length with h | h
 ·have := Oy hg h; omega
 ·have : gl N.ends a = [] := by unfold gl; rw [List.getD_eq_getElem?_getD, List.getElem?_eq_none h]; rfl
  rw [this]; simp
end
section
open Go Go.RowKit
theorem lm {xs : List Int} {x : Int} : 0 ≤ je xs x ↔ x ∈ xs := by
 unfold je
 rcases ym xs.length fun j => gi xs j == x with ⟨h1, h2⟩ | ⟨m, h1, h2, h3, -⟩
 ·rw [h1];refine ⟨fun h => absurd h (by decide), fun h => ?_⟩;obtain ⟨j, hj, rfl⟩ := List.getElem_of_mem h;have := h2 j hj;rw [cf hj] at this;simp at this
 ·rw [h1];refine ⟨fun _ => ?_, fun _ => by omega⟩;have h3 : gi xs m = x := by simpa using h3
  rw [← h3, cf h2];exact List.getElem_mem h2
end
section
set_option maxHeartbeats 0
set_option maxRecDepth 8000
open Go Go.RowKit
def qC (e : Int × Int × Int × Int) : List C := [.p (.int .i64 e.1), .p (.int .i64 e.2.1), .p (.int .i64 e.2.2.1), .p (.int .i64 e.2.2.2)]
def gq (L : List (Int × Int × Int × Int)) (k : Nat) : Int × Int × Int × Int := L.getD k (0, 0, 0, 0)
theorem Ew {L : List (Int × Int × Int × Int)} {k : Nat} (h : k < L.length) : gq L k = L[k] := by simp [gq, h]
theorem Im (xs : List (Int × Int × Int × Int)) (a b c d : Int) : xs.map qC ++ [[C.p (.int .i64 a), C.p (.int .i64 b), C.p (.int .i64 c), C.p (.int .i64 d)]] = (xs ++ [(a, b, c, d)]).map qC := by simp [qC]
theorem Bd {L : List (Int × Int × Int × Int)} {k : Nat} (h : k < L.length) : (L.map qC).getD k [] = [.p (.int .i64 (gq L k).1), .p (.int .i64 (gq L k).2.1), .p (.int .i64 (gq L k).2.2.1), .p (.int .i64 (gq L k).2.2.2)] := by
 rw [List.getD_eq_getElem?_getD, List.getElem?_map, List.getElem?_eq_getElem h, Ew h]; rfl
theorem Ng (t : TypeId) (L : List (Int × Int × Int × Int)) : (C.sl true t 4 (L.map qC)).owned := ng fun r hr c hc => by
 obtain ⟨e, -, rfl⟩ := List.mem_map.1 hr;simp only [qC, List.mem_cons, List.not_mem_nil, or_false] at hc
 rcases hc with rfl | rfl | rfl | rfl <;> exact Cd _
def edP (N : Net) (k i : Nat) : Bool := decide ((k : Int) < (gp (gl N.ends k) i).1) || (((k : Int) == (gp (gl N.ends k) i).1) && decide ((i : Int) ≤ (gp (gl N.ends k) i).2))
def edN (N : Net) (k : Nat) : Nat → List (Int × Int × Int × Int)
 | 0 => []
 | i + 1 => if edP N k i = true then edN N k i ++ [((k : Int), (i : Int), (gp (gl N.ends k) i).1, (gp (gl N.ends k) i).2)] else edN N k i
def edL (N : Net) : Nat → List (Int × Int × Int × Int)
 | 0 => []
 | k + 1 => edL N k ++ edN N k (gl N.ends k).length
theorem Cy (N : Net) (k : Nat) : ∀ i, (edN N k i).length ≤ i
 | 0 => Nat.le_refl _
 | i + 1 => by
  have := Cy N k i;rw [edN];split
  ·simp; omega
  ·omega
theorem wk (N : Net) (hd : ∀ a, (gl N.ends a).length ≤ 1000) : ∀ k, (edL N k).length ≤ k * 1000
 | 0 => by simp [edL]
 | k + 1 => by
  have h1 := wk N hd k;have h2 := Cy N k (gl N.ends k).length;have h3 := hd k;rw [edL, List.length_append];omega
theorem Cx {N : Net} {k : Nat} : ∀ {i : Nat} {e : Int × Int × Int × Int}, e ∈ edN N k i → ∃ j, j < i ∧ edP N k j = true ∧ e = ((k : Int), (j : Int), (gp (gl N.ends k) j).1, (gp (gl N.ends k) j).2)
 | 0, e, h => by cases h
 | i + 1, e, h => by
  rw [edN] at h;split at h
  ·rename_i hp
   rcases List.mem_append.1 h with h | h
   ·obtain ⟨j, h1, h2⟩ := Cx h; exact ⟨j, by omega, h2⟩
   ·exact ⟨i, by omega, hp, by simpa using h⟩
  ·obtain ⟨j, h1, h2⟩ := Cx h; exact ⟨j, by omega, h2⟩
theorem Cz {N : Net} : ∀ {n : Nat} {e : Int × Int × Int × Int}, e ∈ edL N n → ∃ k j, k < n ∧ j < (gl N.ends k).length ∧ edP N k j = true ∧ e = ((k : Int), (j : Int), (gp (gl N.ends k) j).1, (gp (gl N.ends k) j).2)
 | 0, e, h => by cases h
 | n + 1, e, h => by
  rw [edL] at h
  rcases List.mem_append.1 h with h | h
  ·obtain ⟨k, j, h1, h2⟩ := Cz h; exact ⟨k, j, by omega, h2⟩
  ·obtain ⟨j, h1, h2⟩ := Cx h; exact ⟨n, j, by omega, h1, h2⟩
def zBDeq1 := PLift.up (And.intro ap (And.intro bh (And.intro ce (And.intro bl (And.intro az (And.intro @if_pos.{1} (And.intro @b7 (And.intro be (And.intro @dm (And.intro @dl (And.intro @bz (And.intro @bq (And.intro @bt (And.intro iv (And.intro iw (And.intro @Bd @trivial))))))))))))))))
theorem Hi : type_of% zBDeq1.down := zBDeq1.down
theorem Rr (f : NF) (N : Net) (hn : N.ends.length ≤ 1000) (hdg : ∀ a, (gl N.ends a).length ≤ 1000) : DCalls Tryz.prog 76 [.agg (bw f N)] (fun r => r = [.own false [.sl true 78 4 ((edL N N.ends.length).map qC)]]) := by
 refine ao Tryz.func76 rfl (by rw [Tryz.ntmps76]; simp) fun w0 => ?_;rw [Tryz.ntmps76];have dX := Hi;simp only [b4, bc, Arg.av, bw, b8, ints, ends];refine ab (dR fun K hK => ?_);(repeat refine eV ?_);refine aa (hK _ (wK [1] ?_));clear hK K;refine ab (dR fun K hK => ?_);(repeat refine eV ?_);refine aa (hK _ (wK [1, 3] ?_));clear hK K;refine ab ?_;refine ab (dR fun K hK => ?_);(repeat refine eV ?_);refine aa (hK _ (wK [3, 9, 10, 11] ?_));clear hK K;refine ae ?_;refine ii 3 78 4 (by decide) (by simp only [ac, pZ, simprocAttr]) [3, 9, 10, 11] (by simp only [ac, pZ, simprocAttr]; exact rfl) ?_;refine ax (X := Nat) (fun k => k ≤ N.ends.length) (fun k => [(11, .c (.p (.int .i64 k)))]) (fun k => [((3, 0), ⟨none, [.sl true 78 4 ((edL N k).map qC)]⟩)]) (fun k => N.ends.length - k) 0 (Nat.zero_le _) (by first | rfl | (simp only [ac, pZ, simprocAttr, Int.natCast_zero] <;> rfl)) ?_;rintro k hk;intro E hE;simp only [ac, pZ, simprocAttr] at hE;subst hE;refine ab (dR fun K hK => ?_);(repeat refine eV ?_);refine aa (hK _ (wK [3, 9, 10, 11, 12] ?_));clear hK K;refine ab (dI (fun hb => ?_) (fun hb => ?_))
 ·have hk1 : k < N.ends.length := by simpa using hb
  have hdk := hdg k;have hel := wk N hdg k;have hk3 : k * 1000 ≤ 1000 * 1000 := Nat.mul_le_mul_right _ (by omega);refine af ?_;show DW _ _ _ _ _;refine ab (ae ?_);have dX := And.intro dX (@Int.toNat_natCast);refine ab (dR fun K hK => ?_);(repeat refine eV ?_);refine aa (hK _ (wK [3, 4, 5, 9, 10, 11] ?_));clear hK K;refine ab (dR fun K hK => ?_);(repeat refine eV ?_);refine aa (hK _ (wK [3, 4, 9, 10, 11, 16, 17, 18] ?_));clear hK K;refine ae ?_;refine ax (X := Nat) (fun i => i ≤ (gl N.ends k).length) (fun i => [(18, .c (.p (.int .i64 i)))]) (fun i => [((3, 0), ⟨none, [.sl true 78 4 ((edL N k ++ edN N k i).map qC)]⟩)]) (fun i => (gl N.ends k).length - i) 0 (Nat.zero_le _) (by first | rfl | (simp only [ac, pZ, simprocAttr, Int.natCast_zero, edN, List.append_nil] <;> rfl)) ?_;rintro i hi;intro E hE;simp only [ac, pZ, simprocAttr] at hE;subst hE;have hnl := Cy N k i;have hll : (edL N k ++ edN N k i).length ≤ 1000 * 1000 + 1000 := by rw [List.length_append]; omega
  refine ab (dR fun K hK => ?_);(repeat refine eV ?_);refine aa (hK _ (wK [3, 4, 9, 10, 11, 16, 17, 18, 19] ?_));clear hK K;refine ab (dI (fun hb => ?_) (fun hb => ?_))
  ·have hi1 : i < (gl N.ends k).length := by simpa using hb
   have hyes : edP N k i = true → edL N k ++ edN N k (i + 1) = (edL N k ++ edN N k i) ++ [((k : Int), (i : Int), (gp (gl N.ends k) i).1, (gp (gl N.ends k) i).2)] := fun h => by rw [edN, if_pos h, List.append_assoc]
   have hno : edP N k i = false → edL N k ++ edN N k (i + 1) = edL N k ++ edN N k i := fun h => by rw [edN, if_neg (by rw [h]; decide)]
   refine af ?_;show DW _ _ _ _ _;refine ab (ae ?_);refine ab (dR fun K hK => ?_);(repeat refine eV ?_);refine aa (hK _ (wK [3, 4, 6, 7, 9, 10, 11, 16, 17, 18] ?_));clear hK K;obtain h1 | h1 := Bool.eq_false_or_eq_true (decide ((k : Int) < (gp (gl N.ends k) i).1))
   ·have hm := hyes (by unfold edP; rw [h1]; rfl);have dX := And.intro dX (@h1);refine ab (dR fun K hK => ?_);(repeat refine eV ?_);have dK := @h1;refine aa (hK _ (ay [3, 4, 6, 7, 9, 10, 11, 16, 17, 18, 38] ?_));clear hK K;refine dI ?_ ?_<;>intro hb
    ·refine dR fun K hK => ?_;(repeat refine eV ?_);have dK := @Im;refine aa (hK _ (ay [3, 4, 9, 10, 11, 16, 17, 18] ?_));clear hK K;refine dR fun K hK => ?_;(repeat refine eV ?_);have dK := And.intro @bi @hm;refine aa (hK _ ?_);clear hK K;show ∃ x, _ ∧ _ ∧ Weak _ _;refine ⟨i + 1, ?_, ?_, an [3, 4, 9, 10, 11, 16, 17, 18]⟩
     ·omega
     ·omega
    ·cases hb
   ·obtain h2 | h2 := Bool.eq_false_or_eq_true ((k : Int) == (gp (gl N.ends k) i).1)
    ·obtain h3 | h3 := Bool.eq_false_or_eq_true (decide ((i : Int) ≤ (gp (gl N.ends k) i).2))
     ·have hm := hyes (by unfold edP; rw [h1, h2, h3]; rfl);have dX := And.intro dX (And.intro @h1 (And.intro @h2 @h3));refine ab (dR fun K hK => ?_);(repeat refine eV ?_);have dK := And.intro @h1 (And.intro @h2 @h3);refine aa (hK _ (ay [3, 4, 6, 7, 9, 10, 11, 16, 17, 18, 38] ?_));clear hK K;refine dI ?_ ?_<;>intro hb
      ·refine dR fun K hK => ?_;(repeat refine eV ?_);have dK := @Im;refine aa (hK _ (ay [3, 4, 9, 10, 11, 16, 17, 18] ?_));clear hK K;refine dR fun K hK => ?_;(repeat refine eV ?_);have dK := And.intro @bi @hm;refine aa (hK _ ?_);clear hK K;show ∃ x, _ ∧ _ ∧ Weak _ _;refine ⟨i + 1, ?_, ?_, an [3, 4, 9, 10, 11, 16, 17, 18]⟩
       ·omega
       ·omega
      ·cases hb
     ·have hm := hno (by unfold edP; rw [h1, h2, h3]; rfl);have dX := And.intro dX (And.intro @h1 (And.intro @h2 @h3));refine ab (dR fun K hK => ?_);(repeat refine eV ?_);have dK := And.intro @h1 (And.intro @h2 @h3);refine aa (hK _ (ay [3, 4, 6, 7, 9, 10, 11, 16, 17, 18, 38] ?_));clear hK K;refine dI ?_ ?_<;>intro hb
      ·cases hb
      ·refine af ?_;show DW _ _ _ _ _;refine dR fun K hK => ?_;(repeat refine eV ?_);have dK := And.intro @bi @hm;refine aa (hK _ ?_);clear hK K;show ∃ x, _ ∧ _ ∧ Weak _ _;refine ⟨i + 1, ?_, ?_, an [3, 4, 9, 10, 11, 16, 17, 18]⟩
       ·omega
       ·omega
    ·have hm := hno (by unfold edP; rw [h1, h2]; rfl);have dX := And.intro dX (And.intro @h1 @h2);refine ab (dR fun K hK => ?_);(repeat refine eV ?_);have dK := And.intro @h1 @h2;refine aa (hK _ (ay [3, 4, 6, 7, 9, 10, 11, 16, 17, 18, 38] ?_));clear hK K;refine dI ?_ ?_<;>intro hb
     ·cases hb
     ·refine af ?_;show DW _ _ _ _ _;refine dR fun K hK => ?_;(repeat refine eV ?_);have dK := And.intro @bi @hm;refine aa (hK _ ?_);clear hK K;show ∃ x, _ ∧ _ ∧ Weak _ _;refine ⟨i + 1, ?_, ?_, an [3, 4, 9, 10, 11, 16, 17, 18]⟩
      ·omega
      ·omega
  ·have hi2 : i = (gl N.ends k).length := by
    have : ¬ i < (gl N.ends k).length := by simpa using hb
    omega
   have hm : edL N (k + 1) = edL N k ++ edN N k i := by rw [hi2]; rfl
   refine am ?_;refine a7 [3, 9, 10, 11] (by simp only [ac, pZ, simprocAttr]; exact rfl) ?_;refine dR fun K hK => ?_;(repeat refine eV ?_);have dK := And.intro @bi @hm;refine aa (hK _ ?_);clear hK K;show ∃ x, _ ∧ _ ∧ Weak _ _;refine ⟨k + 1, ?_, ?_, an [3, 9, 10, 11]⟩
   ·omega
   ·omega
 ·have hk2 : k = N.ends.length := by
   have : ¬ k < N.ends.length := by simpa using hb
   omega
  refine am ?_;refine a7 [3] (by simp only [ac, pZ, simprocAttr]; exact rfl) ?_;refine ab (dR fun K hK => ?_);(repeat refine eV ?_);refine aa (hK _ (wK [2] ?_));clear hK K;exact ak (aq Tryz.results76 (.one (.own _ _ _ _ rfl rfl (own1 (Ng _ _)))) (by decide) (by rw [hk2]))
theorem Dd (o : Bool) (t : TypeId) (es : List (Int × Int × Int × Int)) (g : FuncId) (css : List (List C)) (b : Nat → Bool) (hl : es.length ≤ 1000000) (hm : aj Tryz.prog g = true) (hg : ∀ j, j < es.length → DCalls Tryz.prog g ([.agg (qC (gq es j))] ++ css.map .rp) (fun r => r = [.c (.p (.bool (b j)))])) : DCalls Tryz.prog 159 [.c (.sl o t 4 (es.map qC)), .fn g css] (fun r => r = [.c (.p (.int .i64 (Ct es.length b)))]) := by
 refine ao Tryz.func159 rfl (by rw [Tryz.ntmps159]; simp) fun w0 => ?_;rw [Tryz.ntmps159];have dX := Hi;simp only [b4, bc, Arg.av, bw, b8, ints, ends];refine ab (dR fun K hK => ?_);(repeat refine eV ?_);refine aa (hK _ (wK [0, 1] ?_));clear hK K;refine ab ?_;refine ab (dR fun K hK => ?_);(repeat refine eV ?_);refine aa (hK _ (wK [0, 1, 7, 8] ?_));clear hK K;refine ae ?_;refine ax (X := Nat) (fun k => k ≤ es.length ∧ ∀ j, j < k → b j = false) (fun k => [(8, .c (.p (.int .i64 k)))]) (fun k => []) (fun k => es.length - k) 0 ⟨Nat.zero_le _, fun j hj => by simp at hj⟩ (by first | rfl | (simp only [ac, pZ, simprocAttr, Int.natCast_zero] <;> rfl)) ?_;rintro k ⟨hk, hne⟩;intro E hE;simp only [ac, pZ, simprocAttr] at hE;subst hE;refine ab (dR fun K hK => ?_);(repeat refine eV ?_);refine aa (hK _ (wK [0, 1, 7, 8, 9] ?_));clear hK K;refine ab (dI (fun hb => ?_) (fun hb => ?_))
 ·have hkl : k < es.length := by simpa using hb
  refine af ?_;show DW _ _ _ _ _;refine ab (ae ?_);refine ab (dR fun K hK => ?_);(repeat refine eV ?_);refine aa (hK _ (wK [0, 1, 5, 7, 8] ?_));clear hK K;refine ab (dR fun K hK => ?_);(repeat refine eV ?_);refine Fu rfl ⟨rfl, _, rfl⟩ (by omega) (by simp (disch := first | omega | (intros; contradiction)) only [ac, bj, pZ, simprocAttr, ap, bh, ce, bl, az, if_pos, b7, be, dm, dl, bz, bq, bt, iv, iw, Bd] <;> exact rfl) (by first | assumption) (by simp (disch := first | omega | (intros; contradiction)) only [ac, bj, pZ, simprocAttr, ap, bh, ce, bl, az, if_pos, b7, be, dm, dl, bz, bq, bt, iv, iw, Bd] <;> exact rfl) (hg k hkl) ?_;rintro _ rfl;(repeat refine eV ?_);refine aa (hK _ (wK [0, 1, 5, 7, 8, 16] ?_));clear hK K;refine dI ?_ ?_<;>intro hb
  ·have hi : Ct es.length b = k := Lb hkl hb hne;refine ab (dR fun K hK => ?_);(repeat refine eV ?_);refine aa (hK _ (wK [4] ?_));clear hK K;exact ak (aq Tryz.results159 (.one (.plain _ _ rfl)) (by decide) (by rw [hi]))
  ·refine af ?_;show DW _ _ _ _ _;refine dR fun K hK => ?_;(repeat refine eV ?_);have dK := @bi;refine aa (hK _ ?_);clear hK K;show ∃ x, _ ∧ _ ∧ Weak _ _;refine ⟨k + 1, ?_, ?_, an [0, 1, 7, 8]⟩
   ·refine ⟨hkl, fun j hj => ?_⟩
    rcases Nat.lt_or_ge j k with h | h
    ·exact hne j h
    ·obtain rfl : j = k := by omega
     exact hb
   ·omega
 ·have hkl : k = es.length := by
   have : ¬ (k : Int) < (es.length : Int) := by simpa using hb
   omega
  subst hkl;have hi : Ct es.length b = -1 := Lc hne;refine am ?_;refine a7 [] (by simp only [ac, pZ, simprocAttr]; exact rfl) ?_;refine ab (dR fun K hK => ?_);(repeat refine eV ?_);refine aa (hK _ (wK [4] ?_));clear hK K;exact ak (aq Tryz.results159 (.one (.plain _ _ rfl)) (by decide) (by rw [hi]))
theorem vt (o : Bool) (t : TypeId) (es : List (Int × Int × Int × Int)) (g : FuncId) (css : List (List C)) (b : Nat → Bool) (hl : es.length ≤ 1000000) (hm : aj Tryz.prog g = true) (hg : ∀ j, j < es.length → DCalls Tryz.prog g ([.agg (qC (gq es j))] ++ css.map .rp) (fun r => r = [.c (.p (.bool (b j)))])) : DCalls Tryz.prog 75 [.c (.sl o t 4 (es.map qC)), .fn g css] (fun r => r = [.c (.p (.bool (Fx es.length b)))]) := by
 refine ao Tryz.func75 rfl (by rw [Tryz.ntmps75]; simp) fun w0 => ?_;rw [Tryz.ntmps75];have dX := Hi;simp only [b4, bc, Arg.av, bw, b8, ints, ends];refine ab (dR fun K hK => ?_);(repeat refine eV ?_);refine aa (hK _ (wK [0, 1] ?_));clear hK K;refine ab (dR fun K hK => ?_)
 repeat (apply dr; (focus exact rfl); (focus (simp (disch := first | omega | (intros; contradiction)) only [ac, bj, pZ, simprocAttr, ap, bh, ce, bl, az, if_pos, b7, be, dm, dl, bz, bq, bt, iv, iw, Bd , Ci]; exact rfl)))
 refine gn rfl ⟨rfl, _, rfl⟩ (by omega) (by first | exact Ci) (by simp (disch := first | omega | (intros; contradiction)) only [ac, bj, pZ, simprocAttr, ap, bh, ce, bl, az, if_pos, b7, be, dm, dl, bz, bq, bt, iv, iw, Bd , Ci] <;> exact rfl) (Dd o t es g css b hl hm hg) ?_;rintro _ rfl
 repeat (apply dr; (focus exact rfl); (focus (simp (disch := first | omega | (intros; contradiction)) only [ac, bj, pZ, simprocAttr, ap, bh, ce, bl, az, if_pos, b7, be, dm, dl, bz, bq, bt, iv, iw, Bd , Ci]; exact rfl)))
 refine aa (hK _ (wK [4] ?_));clear hK K;exact ak (aq Tryz.results75 (.one (.plain _ _ rfl)) (by decide) (by rw [← Rj]))
end
section
set_option maxHeartbeats 0
set_option maxRecDepth 8000
open Go Go.RowKit
def binomialSt10 : Nat → Stat
 | 0 => ⟨[5], [], [], [27], [], []⟩
 | 1 => ⟨[6], [], [], [28], [], []⟩
 | 2 => ⟨[27, 28], [(5, 1)], [], [29], [], []⟩
 | 3 => ⟨[29], [(5, 2)], [], [30], [], []⟩
 | 4 => ⟨[5], [], [], [31], [], []⟩
 | 5 => ⟨[6], [], [], [32], [], []⟩
 | 6 => ⟨[32], [], [], [33], [], []⟩
 | 7 => ⟨[31, 33], [(5, 1)], [], [34], [], []⟩
 | 8 => ⟨[34], [(5, 2)], [], [35], [], []⟩
 | 9 => ⟨[30, 35], [], [], [36], [], []⟩
 | 10 => ⟨[27, 28], [(5, 1)], [], [37], [], []⟩
 | 11 => ⟨[37, 36], [(5, 2)], [], [], [(5, 2)], []⟩
 | _ => ⟨[], [], [], [], [], []⟩
theorem D3 {n k : Nat} (hn : n ≤ 14) : bin n k ≤ 16384 := Nat.le_trans (Hu n k) (Nat.pow_le_pow_right (by decide) hn : 2 ^ n ≤ 2 ^ 14)
theorem I0 {m k t i : Nat} (hm : m < 14) (hi : i ≤ k) : 0 ≤ gi (pas m k t) i ∧ gi (pas m k t) i ≤ 16384 := by
 rw [Cc hi];have h1 := D3 (n := m + 1) (k := i) (by omega);have h2 := D3 (n := m) (k := i) (by omega);split <;> omega
def zBRb11 := PLift.up (And.intro bh (And.intro ce (And.intro @if_pos.{1} (And.intro @b7 (And.intro @bq (And.intro @bt @trivial))))))
theorem O7 : type_of% zBRb11.down := zBRb11.down
theorem y9 (n k : Nat) (hk : k ≤ n) (hn : n ≤ 14) : DCalls Tryz.prog 103 [.c (.p (.int .i64 n)), .c (.p (.int .i64 k))] (fun r => r = [.c (.p (.int .i64 (bin n k : Nat)))]) := by
 have c1 : decide ((k : Int) < 0) = false := decide_eq_false (by omega);have c2 : decide ((k : Int) > (n : Int)) = false := decide_eq_false (by omega);have htn : ((k : Int) + 1).toNat = k + 1 := by omega
 obtain ⟨Z, hZ⟩ : ∃ Z, Z = List.replicate (k + 1) (0 : Int) := ⟨_, rfl⟩;have hzr : dy [.int .i64 0] ((k : Int) + 1).toNat = Z.map iC := by rw [Ia, htn, hZ]
 have hd0 : Z.set 0 1 = pas 0 k k := by rw [hZ]; exact (Kf k).symm
 have hrl : Z.length = k + 1 := by rw [hZ]; exact List.length_replicate
 refine ao Tryz.func103 rfl (by rw [Tryz.ntmps103]; simp) fun w0 => ?_;rw [Tryz.ntmps103];have dX := O7;simp only [b4, bc, Arg.av, bw, b8, ints, ends];refine ab (dR fun K hK => ?_);(repeat refine eV ?_);refine aa (hK _ (wK [0, 1] ?_));clear hK K;refine ab ?_;have dX := And.intro dX (And.intro @c1 @c2);refine ab (dR fun K hK => ?_);(repeat refine eV ?_);have dK := And.intro @c1 @c2;refine aa (hK _ (ay [0, 1, 13] ?_));clear hK K;refine dI ?_ ?_<;>intro hb
 ·cases hb
 ·refine af ?_;show DW _ _ _ _ _;have dX := And.intro dX (@hzr);refine ab (dR fun K hK => ?_);(repeat refine eV ?_);have dK := @hzr;refine aa (hK _ (ay [0, 1, 5] ?_));clear hK K;refine ab (dR fun K hK => ?_);(repeat refine eV ?_);have dK := And.intro @pn @hd0;refine aa (hK _ (ay [0, 1, 5] ?_));clear hK K;refine ab ?_;refine ab (dR fun K hK => ?_);(repeat refine eV ?_);refine aa (hK _ (wK [1, 5, 19, 20] ?_));clear hK K;refine ae ?_;refine ax (X := Nat) (fun m => m ≤ n) (fun m => [(20, .c (.p (.int .i64 m)))]) (fun m => [((5, 0), ⟨none, [.sl true 3 1 ((pas m k k).map iC)]⟩)]) (fun m => n - m) 0 (Nat.zero_le _) (by first | rfl | (simp only [ac, pZ, simprocAttr, Int.natCast_zero] <;> rfl)) ?_;rintro m hm;intro E hE;simp only [ac, pZ, simprocAttr] at hE;subst hE;refine ab (dR fun K hK => ?_);(repeat refine eV ?_);refine aa (hK _ (wK [1, 5, 19, 20, 21] ?_));clear hK K;refine ab (dI (fun hb => ?_) (fun hb => ?_))
  ·have hm1 : m < n := by simpa using hb
   refine af ?_;show DW _ _ _ _ _;refine ab (ae ?_);refine ab (dR fun K hK => ?_);(repeat refine eV ?_);refine aa (hK _ (wK [1, 5, 6, 19, 20] ?_));clear hK K;refine ae ?_;refine ax (X := Nat) (fun t => t ≤ k) (fun t => [(6, .c (.p (.int .i64 t)))]) (fun t => [((5, 0), ⟨none, [.sl true 3 1 ((pas m k t).map iC)]⟩)]) (fun t => t) k (Nat.le_refl _) (by first | rfl | (simp only [ac, pZ, simprocAttr, Int.natCast_zero] <;> rfl)) ?_;rintro t ht;intro E hE;simp only [ac, pZ, simprocAttr] at hE;subst hE;refine ab ?_;refine ab (dR fun K hK => ?_);(repeat refine eV ?_);refine aa (hK _ (wK [1, 5, 6, 19, 20, 24] ?_));clear hK K;refine dI ?_ ?_<;>intro hb
   ·have ht0 : 0 < t := by
     have h : (t : Int) > 0 := by simpa using hb
     omega
    have htc : (t : Int) - 1 = ((t - 1 : Nat) : Int) := by omega
    have hset := Nc (m := m) ht0 ht;have hb1 := I0 (m := m) (t := t) (by omega : m < 14) ht;have hb2 := I0 (m := m) (t := t) (i := t - 1) (by omega : m < 14) (by omega : t - 1 ≤ k);have hpl := Cb m k t;obtain ⟨R, hR⟩ : ∃ R, R = pas m k t := ⟨_, rfl⟩;rw [← hR] at hset hb1 hb2 hpl ⊢;refine af ?_;show DW _ _ _ _ _;refine ab (ae ?_);have dX := And.intro dX (And.intro @binomialSt10.eq_def (And.intro @htc @Int.toNat_natCast));refine fg binomialSt10 (fun j r => True) fun K hK => ?_;(repeat refine dV ?_);have dK := And.intro @pn @hset;refine bg (hK _ (ay [1, 5, 6, 19, 20] ?_));clear hK K;refine dR fun K hK => ?_;(repeat refine eV ?_);have dK := @htc;refine aa (hK _ ?_);clear hK K;show ∃ x, _ ∧ _ ∧ Weak _ _;refine ⟨t - 1, ?_, ?_, an [1, 5, 6, 19, 20]⟩
    ·omega
    ·omega
   ·have ht0 : t = 0 := by
     have h : ¬ (t : Int) > 0 := by simpa using hb
     omega
    have hnx : pas m k t = pas (m + 1) k k := by rw [ht0]; exact Nd m k
    refine am ?_;refine a7 [1, 5, 19, 20] (by simp only [ac, pZ, simprocAttr]; exact rfl) ?_;refine dR fun K hK => ?_;(repeat refine eV ?_);have dK := And.intro @bi @hnx;refine aa (hK _ ?_);clear hK K;show ∃ x, _ ∧ _ ∧ Weak _ _;refine ⟨m + 1, ?_, ?_, an [1, 5, 19, 20]⟩
    ·omega
    ·omega
  ·have hm2 : m = n := by
    have : ¬ m < n := by simpa using hb
    omega
   have hpl := Cb m k k;have hfin : gi (pas m k k) k = ((bin n k : Nat) : Int) := by rw [Cc (Nat.le_refl k), if_neg (Nat.lt_irrefl k), hm2]
   refine am ?_;refine a7 [1, 5] (by simp only [ac, pZ, simprocAttr]; exact rfl) ?_;have dX := And.intro dX (@Int.toNat_natCast);refine ab (dR fun K hK => ?_);(repeat refine eV ?_);have dK := @Int.toNat_natCast;refine aa (hK _ (ay [4] ?_));clear hK K;exact ak (aq Tryz.results103 (.one (.plain _ _ rfl)) (by decide) (by rw [hfin]))
def SubI (n k r : Nat) (z : Nat × List Int × Nat) : Prop := z.2.1 ++ sbs (n - z.1) z.1 (k - z.2.1.length) z.2.2 = sbs n 0 k r ∧ z.2.1.length ≤ k ∧ z.1 ≤ n ∧ z.2.2 < bin (n - z.1) (k - z.2.1.length)
theorem SubI.start {n k r : Nat} (hr : r < bin n k) : SubI n k r (0, [], r) := ⟨rfl, Nat.zero_le _, Nat.zero_le _, hr⟩
theorem SubI.lt {n k r x q : Nat} {out : List Int} (h : SubI n k r (x, out, q)) (hl : out.length < k) : x < n ∧ k - out.length - 1 ≤ n - x - 1 := by
 obtain ⟨h1, h2, h3, h4⟩ := h;dsimp only at h1 h2 h3 h4
 by_cases hx : n - x < k - out.length
 ·rw [ou hx] at h4; omega
 ·omega
theorem SubI.open {n k r x q : Nat} {out : List Int} (h : SubI n k r (x, out, q)) (hl : out.length < k) : sbs (n - x) x (k - out.length) q = (if q < bin (n - x - 1) (k - out.length - 1) then (x : Int) :: sbs (n - x - 1) (x + 1) (k - out.length - 1) q else sbs (n - x - 1) (x + 1) (k - out.length) (q - bin (n - x - 1) (k - out.length - 1))) ∧ bin (n - x) (k - out.length) = bin (n - x - 1) (k - out.length - 1) + bin (n - x - 1) (k - out.length) := by
 obtain ⟨g1, -⟩ := h.lt hl;obtain ⟨d, hd⟩ : ∃ d, n - x = d + 1 := ⟨n - x - 1, by omega⟩;obtain ⟨j, hj⟩ : ∃ j, k - out.length = j + 1 := ⟨k - out.length - 1, by omega⟩;rw [hd, hj, Nat.add_sub_cancel, Nat.add_sub_cancel];exact ⟨by rw [sbs], by rw [bin]⟩
theorem SubI.take {n k r x q : Nat} {out : List Int} (h : SubI n k r (x, out, q)) (hl : out.length < k) (hq : q < bin (n - x - 1) (k - out.length - 1)) : SubI n k r (x + 1, out ++ [(x : Int)], q) := by
 obtain ⟨g1, g2⟩ := h.lt hl;obtain ⟨g3, -⟩ := h.open hl;obtain ⟨h1, h2, h3, h4⟩ := h;dsimp only at h1 h2 h3 h4;rw [g3, if_pos hq] at h1;refine ⟨?_, ?_, ?_, ?_⟩
 ·dsimp only;rw [List.length_append, List.length_singleton, show n - (x + 1) = n - x - 1 by omega, show k - (out.length + 1) = k - out.length - 1 by omega, List.append_assoc];exact h1
 ·dsimp only; rw [List.length_append, List.length_singleton]; omega
 ·dsimp only; omega
 ·dsimp only;rw [List.length_append, List.length_singleton, show n - (x + 1) = n - x - 1 by omega, show k - (out.length + 1) = k - out.length - 1 by omega];exact hq
theorem SubI.pass {n k r x q : Nat} {out : List Int} (h : SubI n k r (x, out, q)) (hl : out.length < k) (hq : ¬ q < bin (n - x - 1) (k - out.length - 1)) : SubI n k r (x + 1, out, q - bin (n - x - 1) (k - out.length - 1)) := by
 obtain ⟨g1, g2⟩ := h.lt hl;obtain ⟨g3, g4⟩ := h.open hl;obtain ⟨h1, h2, h3, h4⟩ := h;dsimp only at h1 h2 h3 h4;rw [g3, if_neg hq] at h1;refine ⟨?_, h2, ?_, ?_⟩
 ·dsimp only;rw [show n - (x + 1) = n - x - 1 by omega];exact h1
 ·dsimp only; omega
 ·dsimp only;rw [show n - (x + 1) = n - x - 1 by omega];omega
theorem SubI.done {n k r x q : Nat} {out : List Int} (h : SubI n k r (x, out, q)) (hl : ¬ out.length < k) : out = sbs n 0 k r := by
 obtain ⟨h1, h2, h3, h4⟩ := h;dsimp only at h1 h2 h3 h4;rw [show k - out.length = 0 by omega, qt, List.append_nil] at h1;exact h1
theorem Gd (n k r : Nat) (hr : r < bin n k) (hn : n ≤ 14) : DCalls Tryz.prog 104 [.c (.p (.int .i64 n)), .c (.p (.int .i64 k)), .c (.p (.int .i64 r))] (fun rr => rr = [.own false [.sl true 3 1 ((sbs n 0 k r).map iC)]]) := by
 have hkn : k ≤ n := by
  by_cases h : n < k
  ·rw [ou h] at hr; omega
  ·omega
 refine ao Tryz.func104 rfl (by rw [Tryz.ntmps104]; simp) fun w0 => ?_;rw [Tryz.ntmps104];have dX := O7;simp only [b4, bc, Arg.av, bw, b8, ints, ends];refine ab (dR fun K hK => ?_);(repeat refine eV ?_);refine aa (hK _ (wK [0, 1, 2] ?_));clear hK K;refine ab (dR fun K hK => ?_);(repeat refine eV ?_);refine aa (hK _ (wK [0, 1, 2, 7] ?_));clear hK K;refine ab ?_;refine ab (dR fun K hK => ?_);(repeat refine eV ?_);refine aa (hK _ (wK [0, 1, 2, 7, 8] ?_));clear hK K;refine ae ?_;refine ii 7 3 1 (by decide) (by simp only [ac, pZ, simprocAttr]) [0, 1, 2, 7, 8] (by simp only [ac, pZ, simprocAttr]; exact rfl) ?_;refine ax (X := Nat × List Int × Nat) (fun z => SubI n k r z) (fun z => [(2, .c (.p (.int .i64 z.2.2))), (8, .c (.p (.int .i64 z.1)))]) (fun z => [((7, 0), ⟨none, [.sl true 3 1 (z.2.1.map iC)]⟩)]) (fun z => n - z.1) (0, [], r) (SubI.start hr) (by first | rfl | (simp only [ac, pZ, simprocAttr, Int.natCast_zero] <;> rfl)) ?_;rintro ⟨x, out, q⟩ hI;intro E hE;simp only [ac, pZ, simprocAttr] at hE;subst hE;dsimp only at hI ⊢;have hlk : out.length ≤ k := hI.2.1;refine ab ?_;refine ab (dR fun K hK => ?_);(repeat refine eV ?_);refine aa (hK _ (wK [0, 1, 2, 7, 8, 13] ?_));clear hK K;refine dI ?_ ?_<;>intro hb
 ·have hl : out.length < k := by simpa using hb
  obtain ⟨hx1, hx2⟩ := hI.lt hl;have e1 : (n : Int) - (x : Int) - 1 = ((n - x - 1 : Nat) : Int) := by omega
  have e2 : (k : Int) - (out.length : Int) - 1 = ((k - out.length - 1 : Nat) : Int) := by omega
  have hbl := D3 (n := n - x - 1) (k := k - out.length - 1) (by omega);have htk := hI.take hl;have hps := hI.pass hl;have hql : q < bin (n - x) (k - out.length) := hI.2.2.2;have hql2 := D3 (n := n - x) (k := k - out.length) (by omega);refine af ?_;show DW _ _ _ _ _;refine ab (ae ?_);have dX := And.intro dX (And.intro @e1 @e2);refine ab (dR fun K hK => ?_);(repeat refine eV ?_);have dX := And.intro dX (And.intro @e1 @e2);refine cL rfl ⟨rfl, _, rfl⟩ (by omega) (by first | exact Oh) (y9 (n - x - 1) (k - out.length - 1) hx2 (by omega)) ?_;rintro _ rfl;(repeat refine eV ?_);refine aa (hK _ (wK [0, 1, 2, 7, 8, 9] ?_));clear hK K;obtain ⟨B, hB⟩ : ∃ B, B = bin (n - x - 1) (k - out.length - 1) := ⟨_, rfl⟩;rw [← hB] at htk hps hbl ⊢;refine ab (dR fun K hK => ?_);(repeat refine eV ?_);refine aa (hK _ (wK [0, 1, 2, 7, 8, 9, 28] ?_));clear hK K;refine dI ?_ ?_<;>intro hb
  ·have hq : q < B := by simpa using hb
   refine dR fun K hK => ?_;(repeat refine eV ?_);have dK := @gr;refine aa (hK _ (ay [0, 1, 2, 7, 8] ?_));clear hK K;refine dR fun K hK => ?_;(repeat refine eV ?_);have dK := @bi;refine aa (hK _ ?_);clear hK K;show ∃ x, _ ∧ _ ∧ Weak _ _;refine ⟨(x + 1, out ++ [(x : Int)], q), ?_, ?_, an [0, 1, 2, 7, 8]⟩
   ·exact htk hq
   ·dsimp only; omega
  ·have hq : ¬ q < B := by simpa using hb
   have e3 : (q : Int) - (B : Int) = ((q - B : Nat) : Int) := by omega
   have dX := And.intro dX (@e3);refine dR fun K hK => ?_;(repeat refine eV ?_);have dK := @e3;refine aa (hK _ (ay [0, 1, 2, 7, 8] ?_));clear hK K;refine dR fun K hK => ?_;(repeat refine eV ?_);have dK := @bi;refine aa (hK _ ?_);clear hK K;show ∃ x, _ ∧ _ ∧ Weak _ _;refine ⟨(x + 1, out, q - B), ?_, ?_, an [0, 1, 2, 7, 8]⟩
   ·exact hps hq
   ·dsimp only; omega
 ·have hl : ¬ out.length < k := by simpa using hb
  have hdn := hI.done hl;refine am ?_;refine a7 [7] (by simp only [ac, pZ, simprocAttr]; exact rfl) ?_;refine ab (dR fun K hK => ?_);(repeat refine eV ?_);refine aa (hK _ (wK [6] ?_));clear hK K;exact ak (aq Tryz.results104 (.one (.own _ _ _ _ rfl rfl (own1 (bn _ _)))) (by decide) (by rw [hdn]))
end
end Go.Proofs.YtolpiolnhgpjjaaGreat
