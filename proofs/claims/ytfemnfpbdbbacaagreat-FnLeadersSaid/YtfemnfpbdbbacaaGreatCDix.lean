/- slices.Index, slices.Contains, impl.isConnected over data -/
import Derived.Test.YtfemnfpbdbbacaaGreatCDbf
import Derived.Test.YtfemnfpbdbbacaaGreatCJn8
import Derived.Test.YtfemnfpbdbbacaaGreatCJn35
set_option linter.unusedSimpArgs false
set_option linter.unusedVariables false
namespace Go.Proofs.YtfemnfpbdbbacaaGreat
set_option maxHeartbeats 0
set_option maxRecDepth 8000
open Go Go.RowKit
def Fh (xs : List Int) (x : Int) : Int := Cv xs.length fun j => gi xs j == x
def zBDix1 := PLift.up (And.intro ap (And.intro a7 (And.intro b4 (And.intro bl (And.intro bw (And.intro @if_pos.{1} (And.intro @bt (And.intro b6 (And.intro @cg (And.intro @cf (And.intro @bi (And.intro @b8 (And.intro @ce @trivial)))))))))))))
theorem K3 : type_of% zBDix1.down := zBDix1.down
theorem Wj (o : Bool) (t : TypeId) (xs : List Int) (x : Int) (hl : xs.length ≤ 1000000) : DCalls Tryz.prog 82 [.c (.sl o t 1 (xs.map iC)), .c (.p (.int .i64 x))] (fun r => r = [.c (.p (.int .i64 (Fh xs x)))]) := by
 refine ao Tryz.func82 rfl (by rw [Tryz.ntmps82]; simp) fun w0 => ?_;rw [Tryz.ntmps82];have dX := K3;simp only [b7, bf, Arg.av, br, ch, ints, ends];refine ab (dR fun K hK => ?_);(repeat refine eV ?_);refine aa (hK _ (wK [0, 1] ?_));clear hK K;refine ab ?_;refine ab (dR fun K hK => ?_);(repeat refine eV ?_);refine aa (hK _ (wK [0, 1, 7, 8] ?_));clear hK K;refine ae ?_;refine au (X := Nat) (fun k => k ≤ xs.length ∧ ∀ j, j < k → (gi xs j == x) = false) (fun k => [(8, .c (.p (.int .i64 k)))]) (fun k => []) (fun k => xs.length - k) 0 ⟨Nat.zero_le _, fun j hj => by simp at hj⟩ (by first | rfl | (simp only [ac, pZ, simprocAttr, Int.natCast_zero] <;> rfl)) ?_;rintro k ⟨hk, hne⟩;intro E hE;simp only [ac, pZ, simprocAttr] at hE;subst hE;refine ab (dR fun K hK => ?_);(repeat refine eV ?_);refine aa (hK _ (wK [0, 1, 7, 8, 9] ?_));clear hK K;refine ab (dI (fun hb => ?_) (fun hb => ?_))
 ·have hkl : k < xs.length := by simpa using hb
  refine ah ?_;show DW _ _ _ _ _;refine ab (ae ?_);refine ab (dR fun K hK => ?_);(repeat refine eV ?_);refine aa (hK _ (wK [0, 1, 5, 7, 8] ?_));clear hK K;refine ab (dR fun K hK => ?_);(repeat refine eV ?_);refine aa (hK _ (wK [0, 1, 5, 7, 8, 16] ?_));clear hK K;refine dI ?_ ?_<;>intro hb
  ·have he : gi xs k = x := Eq.symm (by simpa using hb);have hi : Fh xs x = k := Pr hkl (by simpa using he) hne;refine ab (dR fun K hK => ?_);(repeat refine eV ?_);refine aa (hK _ (wK [4] ?_));clear hK K;exact aj (am Tryz.results82 (.one (.plain _ _ rfl)) (by decide) (by rw [hi]))
  ·have he : (gi xs k == x) = false := by
    have : x ≠ gi xs k := by simpa using hb
    simpa using fun h => this h.symm
   refine ah ?_;show DW _ _ _ _ _;refine dR fun K hK => ?_;(repeat refine eV ?_);have dK := @bp;refine aa (hK _ ?_);clear hK K;show ∃ x, _ ∧ _ ∧ Weak _ _;refine ⟨k + 1, ?_, ?_, a6 [0, 1, 7, 8]⟩
   ·refine ⟨hkl, fun j hj => ?_⟩
    rcases Nat.lt_or_ge j k with h | h
    ·exact hne j h
    ·obtain rfl : j = k := by omega
     exact he
   ·omega
 ·have hkl : k = xs.length := by
   have : ¬ (k : Int) < (xs.length : Int) := by simpa using hb
   omega
  subst hkl;have hi : Fh xs x = -1 := Ps hne;refine an ?_;refine wK [] ?_;refine ab (dR fun K hK => ?_);(repeat refine eV ?_);refine aa (hK _ (wK [4] ?_));clear hK K;exact aj (am Tryz.results82 (.one (.plain _ _ rfl)) (by decide) (by rw [hi]))
theorem Lk (o : Bool) (t : TypeId) (xs : List Int) (x : Int) (hl : xs.length ≤ 1000000) : DCalls Tryz.prog 58 [.c (.sl o t 1 (xs.map iC)), .c (.p (.int .i64 x))] (fun r => r = [.c (.p (.bool (decide (0 ≤ Fh xs x))))]) := by
 refine ao Tryz.func58 rfl (by rw [Tryz.ntmps58]; simp) fun w0 => ?_;rw [Tryz.ntmps58];have dX := K3;simp only [b7, bf, Arg.av, br, ch, ints, ends];refine ab (dR fun K hK => ?_);(repeat refine eV ?_);refine aa (hK _ (wK [0, 1] ?_));clear hK K;refine ab (dR fun K hK => ?_)
 repeat (apply b0; (focus exact rfl); (focus (simp (disch := first | omega | (intros; contradiction)) only [ac, bd, pZ, simprocAttr, ap, a7, b4, bl, bw, if_pos, bt, b6, cg, cf, bi, b8, ce , Mo]; exact rfl)))
 refine eh rfl ⟨rfl, _, rfl⟩ (by omega) (by first | exact Mo) (by simp (disch := first | omega | (intros; contradiction)) only [ac, bd, pZ, simprocAttr, ap, a7, b4, bl, bw, if_pos, bt, b6, cg, cf, bi, b8, ce , Mo] <;> exact rfl) (Wj o t xs x hl) ?_;rintro _ rfl
 repeat (apply b0; (focus exact rfl); (focus (simp (disch := first | omega | (intros; contradiction)) only [ac, bd, pZ, simprocAttr, ap, a7, b4, bl, bw, if_pos, bt, b6, cg, cf, bi, b8, ce , Mo]; exact rfl)))
 refine aa (hK _ (wK [4] ?_));clear hK K;exact aj (am Tryz.results58 (.one (.plain _ _ rfl)) (by decide) rfl)
theorem v6 {N : Net} (hs : Sym N.ends) {a b : Nat} (ha : a < N.ends.length) (hb : b < N.ends.length) (h : ∀ w, w < N.ends.length → 0 ≤ gi (da N a) w) : ∀ w, w < N.ends.length → 0 ≤ gi (da N b) w := by
 have hx := d7 hs ha;have hy := d7 hs hb
 have h1 : ∀ (k : Nat) w, w < N.ends.length → gi (da N a) w = k → 0 ≤ gi (da N b) w → 0 ≤ gi (da N b) a := fun k => by
  induction k with
  | zero => intro w hw hk h2; rw [← hx.zero w hw (by simpa using hk)]; exact h2
  | succ k ih =>
   intro w hw hk h2;obtain ⟨j, hj, h3⟩ := hx.back w hw (by omega);exact ih _ (ej hs hw hj).1 (by omega) (hy.step w hw h2 j hj).1
 obtain ⟨k, hk⟩ := Int.eq_ofNat_of_zero_le (h b hb);have h0 := h1 k b hb hk (by rw [hy.root]; exact Int.le_refl 0)
 have h2 : ∀ (k : Nat) w, w < N.ends.length → gi (da N a) w = k → 0 ≤ gi (da N b) w := fun k => by
  induction k with
  | zero => intro w hw hk; rw [hx.zero w hw (by simpa using hk)]; exact h0
  | succ k ih =>
   intro w hw hk;obtain ⟨j, hj, h3⟩ := hx.back w hw (by omega);obtain ⟨h4, h5, h6, -⟩ := ej hs hw hj;have := (hy.step _ h4 (ih _ h4 (by omega)) _ h5).1;rwa [h6] at this
 intro w hw;obtain ⟨k, hk⟩ := Int.eq_ofNat_of_zero_le (h w hw);exact h2 k w hw hk
theorem Tu {N : Net} (hs : Sym N.ends) {a b : Nat} (ha : a < N.ends.length) (hb : b < N.ends.length) : em N a = em N b := by
 rw [Bool.eq_iff_iff, ik hs ha, ik hs hb];exact ⟨v6 hs ha hb, v6 hs hb ha⟩
theorem Tt {N : Net} (hs : Sym N.ends) {a : Nat} (ha : a < N.ends.length) : (!decide (0 ≤ Fh (da N a) (-1))) = em N a := by
 have hd := d7 hs ha
 rcases Bo (da N a).length (fun j => gi (da N a) j == -1) with ⟨h1, h2⟩ | ⟨m, h1, h2, h3, -⟩
 ·have e : decide (0 ≤ Fh (da N a) (-1)) = false := by unfold Fh; rw [h1]; rfl
  rw [e];refine ((ik hs ha).2 fun w hw => ?_).symm;have h3 := h2 w (by rw [hd.len]; exact hw);have h4 := hd.low w hw;have : gi (da N a) w ≠ -1 := by simpa using h3
  omega
 ·have e : decide (0 ≤ Fh (da N a) (-1)) = true := by unfold Fh; rw [h1]; simp
  rw [e];refine (Bool.eq_false_iff.2 fun hc => ?_).symm;rw [hd.len] at h2;have := (ik hs ha).1 hc m h2;have h4 : gi (da N a) m = -1 := by simpa using h3
  omega
theorem fu (f : NF) (N : Net) (hg : bb N = true) {a : Nat} (ha : a < N.ends.length) : DCalls Tryz.prog 22 [.agg (br f N)] (fun r => r = [.c (.p (.bool (em N a)))]) := by
 have hs : Sym N.ends := (f8 hg).sym;have hn := dh hg
 have hdg : ∀ a, (gl N.ends a).length ≤ 1000 := fun a => by
  rcases Nat.lt_or_ge a N.ends.length with h | h
  ·have := If hg h; omega
  ·have : gl N.ends a = [] := by unfold gl; rw [List.getD_eq_getElem?_getD, List.getElem?_eq_none h]; rfl
   rw [this]; simp
 have hdl := (d7 hs (show 0 < N.ends.length by omega)).len;have hc0 := Tt hs (show 0 < N.ends.length by omega);have hca := Tu hs (show 0 < N.ends.length by omega) ha;refine ao Tryz.func22 rfl (by rw [Tryz.ntmps22]; simp) fun w0 => ?_;rw [Tryz.ntmps22];have dX := K3;simp only [b7, bf, Arg.av, br, ch, ints, ends];refine ab (dR fun K hK => ?_);(repeat refine eV ?_);refine aa (hK _ (wK [1] ?_));clear hK K;refine ab (dR fun K hK => ?_)
 repeat (apply b0; (focus exact rfl); (focus (simp (disch := first | omega | (intros; contradiction)) only [ac, bd, pZ, simprocAttr, ap, a7, b4, bl, bw, if_pos, bt, b6, cg, cf, bi, b8, ce , ug, Be]; exact rfl)))
 refine eh rfl ⟨rfl, _, rfl⟩ (by omega) (by first | exact ug | exact Be) (by simp (disch := first | omega | (intros; contradiction)) only [ac, bd, pZ, simprocAttr, ap, a7, b4, bl, bw, if_pos, bt, b6, cg, cf, bi, b8, ce , ug, Be] <;> exact rfl) (oo ⟨false, f.t1, f.o2, f.t2, false, f.t3, false, f.t4⟩ N 0 hs (by omega) (by omega) hdg) ?_;rintro _ rfl
 repeat (apply b0; (focus exact rfl); (focus (simp (disch := first | omega | (intros; contradiction)) only [ac, bd, pZ, simprocAttr, ap, a7, b4, bl, bw, if_pos, bt, b6, cg, cf, bi, b8, ce , ug, Be]; exact rfl)))
 refine eh rfl ⟨rfl, _, rfl⟩ (by omega) (by first | exact ug | exact Be) (by simp (disch := first | omega | (intros; contradiction)) only [ac, bd, pZ, simprocAttr, ap, a7, b4, bl, bw, if_pos, bt, b6, cg, cf, bi, b8, ce , ug, Be] <;> exact rfl) (Lk true 3 (da N 0) (-1) (by omega)) ?_;rintro _ rfl
 repeat (apply b0; (focus exact rfl); (focus (simp (disch := first | omega | (intros; contradiction)) only [ac, bd, pZ, simprocAttr, ap, a7, b4, bl, bw, if_pos, bt, b6, cg, cf, bi, b8, ce , ug, Be]; exact rfl)))
 have dK := And.intro @hc0 @hca;refine aa (hK _ (az [2] ?_));clear hK K;exact aj (am Tryz.results22 (.one (.plain _ _ rfl)) (by decide) rfl)
end Go.Proofs.YtfemnfpbdbbacaaGreat
