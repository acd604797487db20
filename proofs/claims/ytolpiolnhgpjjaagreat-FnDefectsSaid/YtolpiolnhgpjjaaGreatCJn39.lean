/- Parts of the proof. -/
import Derived.Test.YtolpiolnhgpjjaaGreatCJn36
import Derived.Test.YtolpiolnhgpjjaaGreatCPwp
import Derived.Test.YtolpiolnhgpjjaaGreatCRko
import Derived.Test.YtolpiolnhgpjjaaGreatCIm4
import Derived.Test.YtolpiolnhgpjjaaGreatCPwq
import Derived.Test.YtolpiolnhgpjjaaGreatCJn24
import Derived.Test.YtolpiolnhgpjjaaGreatCDcu
import Derived.Test.YtolpiolnhgpjjaaGreatCJn17
import Derived.Test.YtolpiolnhgpjjaaGreatCJn9
import Derived.Test.YtolpiolnhgpjjaaGreatCJn7
import Derived.Test.YtolpiolnhgpjjaaGreatCNw1
import Derived.Test.YtolpiolnhgpjjaaGreatCNw3
import Derived.Test.YtolpiolnhgpjjaaGreatCJn28
import Derived.Test.YtolpiolnhgpjjaaGreatCJn29
import Derived.StillTailTactics
import Derived.Test.YtolpiolnhgpjjaaGreatCJn37
import Derived.Test.YtolpiolnhgpjjaaGreatCJn26
import Derived.Test.YtolpiolnhgpjjaaGreatCEd1
import Derived.Test.YtolpiolnhgpjjaaGreatCTnd
import Derived.Test.YtolpiolnhgpjjaaGreatCJn19
set_option linter.unusedSimpArgs false
set_option linter.unusedVariables false
namespace Go.Proofs.YtolpiolnhgpjjaaGreat
section
section
variable {N : Net}
theorem iy {v : Nat} {u : Int} : oe N v u = true ↔ ∃ j, j < (gl N.ends v).length ∧ (gp (gl N.ends v) j).1 = u := by
 unfold oe;rw [ye];simp
end
end
section
open Go Go.RowKit
theorem Lm (N : Net) (v : Nat) (u : Int) : gu (eu N v (gl N.ends v).length) u = oe N v u := by
 rw [r8, Bool.eq_iff_iff, iy, gu, List.contains_iff_mem, List.mem_map];constructor
 ·rintro ⟨e, he, rfl⟩;obtain ⟨j, hj, rfl⟩ := List.mem_iff_getElem.1 he;exact ⟨j, hj, by rw [f6 hj]⟩
 ·rintro ⟨j, hj, rfl⟩;exact ⟨_, List.getElem_mem hj, by rw [f6 hj]⟩
end
section
open Go Go.RowKit
theorem Hy {N : Net} {k j : Nat} (hp : edP N k j = true) : ∀ {i : Nat}, j < i → ((k : Int), (j : Int), (gp (gl N.ends k) j).1, (gp (gl N.ends k) j).2) ∈ edN N k i
 | 0, h => absurd h (Nat.not_lt_zero _)
 | i + 1, h => by
  rw [edN]
  by_cases h1 : j = i
  ·subst h1; rw [if_pos hp]; simp
  ·have := Hy hp (show j < i by omega);split
   ·exact List.mem_append_left _ this
   ·exact this
theorem B2 {N : Net} {k j : Nat} (hp : edP N k j = true) (hj : j < (gl N.ends k).length) : ∀ {n : Nat}, k < n → ((k : Int), (j : Int), (gp (gl N.ends k) j).1, (gp (gl N.ends k) j).2) ∈ edL N n
 | 0, h => absurd h (Nat.not_lt_zero _)
 | n + 1, h => by
  rw [edL]
  by_cases h1 : k = n
  ·subst h1; exact List.mem_append_right _ (Hy hp hj)
  ·exact List.mem_append_left _ (B2 hp hj (by omega))
theorem Hx {N : Net} (hs : Sym N.ends) {v j : Nat} (hv : v < N.ends.length) (hj : j < (gl N.ends v).length) : ∃ e ∈ edL N N.ends.length, (e.1 = (v : Int) ∧ e.2.2.1 = (gp (gl N.ends v) j).1) ∨ (e.2.2.1 = (v : Int) ∧ e.1 = (gp (gl N.ends v) j).1) := by
 obtain ⟨h1, h2, h3, h4, h5⟩ := rm hs hv hj;obtain ⟨-, -, -, -, h6⟩ := rm hs h1 h2;rw [h3, h4] at h6
 by_cases hp : edP N v j = true
 ·exact ⟨_, B2 hp hj hv, .inl ⟨rfl, rfl⟩⟩
 ·have hq : edP N (nd N v j) (bk N v j) = true := by
   unfold edP at hp ⊢;rw [h6];rw [h5] at hp;simp only [Bool.or_eq_true, Bool.and_eq_true, decide_eq_true_eq, beq_iff_eq] at hp ⊢;omega
  refine ⟨_, B2 hq h2 h1, .inr ⟨by rw [h6], by rw [h5]⟩⟩
end
section
set_option maxHeartbeats 0
set_option maxRecDepth 8000
open Go Go.RowKit
theorem DCalls.fn0 {P : Program} {f g : FuncId} {a : Arg} {Post : Res → Prop} (h : DCalls P f [a, .fn g []] Post) : DCalls P f [a, .c (.p (.func (.func g) #[] #[]))] Post :=
 fun w vs h1 h2 => h w vs h1 fun i x hx => by
  match i, hx with
  | 0, hx => exact h2 0 x hx
  | 1, hx =>
   obtain rfl : Arg.fn g [] = x := by simpa using hx
   obtain ⟨u, hu, hro⟩ := h2 1 _ rfl;obtain rfl : u = .func (.func g) #[] #[] := ev hro;exact ⟨_, hu, ⟨#[], rfl, rfl, fun i cs hi => by simp at hi⟩⟩
theorem Db (n : Nat) (hn : n ≤ 1048576) : DCalls Tryz.prog 78 [.c (.p (.int .i64 n))] (fun r => r = [.own false [.sl true 3 1 ((en n).map iC)]]) := M3 fun w vs h1 h2 => by
 obtain ⟨u, rfl, g1⟩ := Ef h1 h2;rw [uu g1];exact (yq n w hn).mono fun e w' ⟨g, he, hg, ho, hb⟩ => ⟨_, he, ho, hb⟩
def plB (N : Net) : Bool := (List.range N.ends.length).all fun v => !oe N v v
theorem nl {N : Net} : plB N = true ↔ ∀ v, v < N.ends.length → oe N v v = false := by
 unfold plB;rw [List.all_eq_true];exact ⟨fun h v hv => by have := h v (List.mem_range.2 hv); simpa using this, fun h v hv => by rw [h v (List.mem_range.1 hv)]; rfl⟩
theorem Q1 {N : Net} {v : Nat} (hv : v < N.ends.length) (h : oe N v v = true) : plB N = false := by
 cases hp : plB N with
 | false => rfl
 | true => have := nl.1 hp v hv; rw [h] at this; cases this
def lpC (N : Net) (j : Nat) : Bool := (gq (edL N N.ends.length) j).1 == (gq (edL N N.ends.length) j).2.2.1
theorem Me {N : Net} (hs : Sym N.ends) : ta (edL N N.ends.length).length (lpC N) = !plB N := by
 rw [Bool.eq_iff_iff, ye, Bool.not_eq_true', ← Bool.not_eq_true, nl];constructor
 ·rintro ⟨q, hq, hqe⟩ h;obtain ⟨k, i, hk, hi, -, he⟩ := qv (List.getElem_mem hq);rw [← qu hq] at he;unfold lpC at hqe;rw [he] at hqe;have h2 := h k hk;have h3 : oe N k (k : Int) = true := iy.2 ⟨i, hi, by rw [beq_iff_eq] at hqe; exact hqe.symm⟩;rw [h3] at h2; cases h2
 ·intro h
  have h2 : ∃ v, v < N.ends.length ∧ oe N v v = true := Classical.byContradiction fun h3 => h fun v hv => by
   cases hj : oe N v v with
   | false => rfl
   | true => exact absurd ⟨v, hv, hj⟩ h3
  obtain ⟨v, hv, hj⟩ := h2;obtain ⟨j, hj2, he⟩ := iy.1 hj;obtain ⟨e, hee, h6⟩ := Hx hs hv hj2;obtain ⟨q, hq, rfl⟩ := List.mem_iff_getElem.1 hee;refine ⟨q, hq, ?_⟩;unfold lpC;rw [qu hq]
  rcases h6 with ⟨h7, h8⟩ | ⟨h7, h8⟩ <;> rw [h7, h8, he] <;> simp
def zBDf31 := PLift.up (And.intro aq (And.intro bp (And.intro cr (And.intro b6 (And.intro bl (And.intro @if_pos.{1} (And.intro @cl (And.intro bt (And.intro @di (And.intro @dq (And.intro @bw (And.intro @ca (And.intro @ck (And.intro ff (And.intro fg @trivial)))))))))))))))
theorem xw : type_of% zBDf31.down := zBDf31.down
theorem Dq (e : Int × Int × Int × Int) : DCalls Tryz.prog 175 [.agg (qC e)] (fun r => r = [.c (.p (.bool (e.1 == e.2.2.1)))]) := by
 obtain ⟨e1, e2, e3, e4⟩ := e;refine am Tryz.func175 rfl (by rw [Tryz.ntmps175]; simp) fun w0 => ?_;rw [Tryz.ntmps175];have dX := xw;simp only [bq, bb, Arg.av, bj, bv, ints, ends, qC];refine ab (dR fun K hK => ?_);(repeat refine eV ?_);refine aa (hK _ (wK [1] ?_));clear hK K;refine ab (dR fun K hK => ?_);(repeat refine eV ?_);refine aa (hK _ (wK [2] ?_));clear hK K;exact aj (al Tryz.results175 (.one (.plain _ _ rfl)) (by decide) rfl)
theorem xl (f : NF) (N : Net) (hg : bn N = true) : DCalls Tryz.prog 117 [.agg (bj f N)] (fun r => r = [.c (.p (.bool (!plB N)))]) := by
 obtain ⟨hs, hn, hids, hdg⟩ := b0 hg;have hel := vh N hdg N.ends.length;have hlp := Me hs;have hclo : ∀ j, j < (edL N N.ends.length).length → DCalls Tryz.prog 175 ([.agg (qC (gq (edL N N.ends.length) j))] ++ ([] : List (List C)).map .rp) (fun r => r = [.c (.p (.bool (lpC N j)))]) := fun j hj => Dq _;refine am Tryz.func117 rfl (by rw [Tryz.ntmps117]; simp) fun w0 => ?_;rw [Tryz.ntmps117];have dX := xw;simp only [bq, bb, Arg.av, bj, bv, ints, ends];refine ab (dR fun K hK => ?_);(repeat refine eV ?_);refine aa (hK _ (wK [1] ?_));clear hK K;refine ab (dR fun K hK => ?_)
 repeat (apply cm; (focus exact rfl); (focus (simp (disch := first | omega | (intros; contradiction)) only [ac, bh, pZ, simprocAttr, aq, bp, cr, b6, bl, if_pos, cl, bt, di, dq, bw, ca, ck, ff, fg , ge, gw]; exact rfl)))
 refine f9 rfl ⟨rfl, _, rfl⟩ (by omega) (by first | exact ge | exact gw) (by simp (disch := first | omega | (intros; contradiction)) only [ac, bh, pZ, simprocAttr, aq, bp, cr, b6, bl, if_pos, cl, bt, di, dq, bw, ca, ck, ff, fg , ge, gw] <;> exact rfl) (Bz ⟨false, f.t1, f.o2, f.t2, false, f.t3, false, f.t4⟩ N (by omega) hdg) ?_;rintro _ rfl
 repeat (apply cm; (focus exact rfl); (focus (simp (disch := first | omega | (intros; contradiction)) only [ac, bh, pZ, simprocAttr, aq, bp, cr, b6, bl, if_pos, cl, bt, di, dq, bw, ca, ck, ff, fg , ge, gw]; exact rfl)))
 refine f9 rfl ⟨rfl, _, rfl⟩ (by omega) (by first | exact ge | exact gw) (by simp (disch := first | omega | (intros; contradiction)) only [ac, bh, pZ, simprocAttr, aq, bp, cr, b6, bl, if_pos, cl, bt, di, dq, bw, ca, ck, ff, fg , ge, gw] <;> exact rfl) ((ly true 78 (edL N N.ends.length) 175 [] _ (by omega) Rc hclo).fn0) ?_;rintro _ rfl
 repeat (apply cm; (focus exact rfl); (focus (simp (disch := first | omega | (intros; contradiction)) only [ac, bh, pZ, simprocAttr, aq, bp, cr, b6, bl, if_pos, cl, bt, di, dq, bw, ca, ck, ff, fg , ge, gw]; exact rfl)))
 refine aa (hK _ (wK [2] ?_));clear hK K;exact aj (al Tryz.results117 (.one (.plain _ _ rfl)) (by decide) (by rw [hlp]))
theorem zh (f : NF) (N : Net) (hg : bn N = true) : DCalls Tryz.prog 122 [.agg (bj f N)] (fun r => r = [.c (.p (.bool (plB N)))]) := by
 obtain ⟨hs, hn, hids, hdg⟩ := b0 hg;refine am Tryz.func122 rfl (by rw [Tryz.ntmps122]; simp) fun w0 => ?_;rw [Tryz.ntmps122];have dX := xw;simp only [bq, bb, Arg.av, bj, bv, ints, ends];refine ab (dR fun K hK => ?_);(repeat refine eV ?_);refine aa (hK _ (wK [1] ?_));clear hK K;refine ab ?_;refine ab (dR fun K hK => ?_);(repeat refine eV ?_);refine aa (hK _ (wK [1, 6, 7] ?_));clear hK K;refine ah ?_;refine ax (X := Nat) (fun k => k ≤ N.ends.length ∧ ∀ v, v < k → oe N v v = false) (fun k => [(7, .c (.p (.int .i64 k)))]) (fun k => []) (fun k => N.ends.length - k) 0 ⟨Nat.zero_le _, fun v hv => absurd hv (Nat.not_lt_zero v)⟩ (by first | rfl | (simp only [ac, pZ, simprocAttr, Int.natCast_zero] <;> rfl)) ?_;rintro k ⟨hk, hr⟩;intro E hE;simp only [ac, pZ, simprocAttr] at hE;subst hE;refine ab (dR fun K hK => ?_);(repeat refine eV ?_);refine aa (hK _ (wK [1, 6, 7, 8] ?_));clear hK K;refine ab (dI (fun hb => ?_) (fun hb => ?_))
 ·have hk1 : k < N.ends.length := by simpa using hb
  have hdk := hdg k;have hnh := Lm N k k;refine af ?_;show DW _ _ _ _ _;refine ab (ah ?_);refine ab (dR fun K hK => ?_);(repeat refine eV ?_);refine aa (hK _ (wK [1, 3, 6, 7] ?_));clear hK K;refine ab (dR fun K hK => ?_);(repeat refine eV ?_);refine cL rfl ⟨rfl, _, rfl⟩ (by omega) (by first | exact zr | exact zq) (qg ⟨false, f.t1, f.o2, f.t2, false, f.t3, false, f.t4⟩ N k hk1 (by omega)) ?_;rintro _ rfl;(repeat refine eV ?_);refine cL rfl ⟨rfl, _, rfl⟩ (by omega) (by first | exact zr | exact zq) (Bo true 3 (eu N k (gl N.ends k).length) k) ?_;rintro _ rfl;(repeat refine eV ?_);have dK := @hnh;refine aa (hK _ (a7 [1, 6, 7, 14] ?_));clear hK K;refine dI ?_ ?_<;>intro hb
  ·have hno := Q1 hk1 hb;refine ab (dR fun K hK => ?_);(repeat refine eV ?_);refine aa (hK _ (wK [2] ?_));clear hK K;exact aj (al Tryz.results122 (.one (.plain _ _ rfl)) (by decide) (by rw [hno]))
  ·refine af ?_;show DW _ _ _ _ _;refine dR fun K hK => ?_;(repeat refine eV ?_);have dK := @bu;refine aa (hK _ ?_);clear hK K;show ∃ x, _ ∧ _ ∧ Weak _ _;refine ⟨k + 1, ?_, ?_, ay [1, 6, 7]⟩
   ·exact ⟨hk1, fun v hv => by by_cases h : v = k; (rw [h]; exact hb); exact hr v (by omega)⟩
   ·omega
 ·have hk2 : k = N.ends.length := by
   have : ¬ k < N.ends.length := by simpa using hb
   omega
  have hyes : plB N = true := nl.2 (hk2 ▸ hr);refine ao ?_;refine ba [] (by simp only [ac, pZ, simprocAttr]; exact rfl) ?_;refine ab (dR fun K hK => ?_);(repeat refine eV ?_);refine aa (hK _ (wK [2] ?_));clear hK K;exact aj (al Tryz.results122 (.one (.plain _ _ rfl)) (by decide) (by rw [hyes]))
def er (N : Net) (col : List Int) (v : Nat) : Nat → Nat
 | 0 => 0
 | c + 1 => if dz N col v (c : Int) < dz N col v (er N col v c : Int) then c else er N col v c
theorem Bu (N : Net) (col : List Int) (v : Nat) : ∀ c, er N col v c ≤ c - 1
 | 0 => Nat.le_refl _
 | c + 1 => by
  have := Bu N col v c;rw [er];split <;> omega
theorem Mo (N : Net) (col : List Int) (v : Nat) : er N col v 1 = 0 := by
 show (if _ then 0 else 0) = 0;split <;> rfl
theorem Dy {N : Net} {col : List Int} {v : Nat} : ∀ {c x : Nat}, x < c → dz N col v (er N col v c : Int) ≤ dz N col v (x : Int)
 | c + 1, x, h => by
  rw [er]
  by_cases hx : x = c
  ·subst hx;split
   ·exact Nat.le_refl _
   ·rename_i h2; omega
  ·have h3 := Dy (N := N) (col := col) (v := v) (show x < c by omega);split
   ·rename_i h2; omega
   ·exact h3
def fewestSt5 : Nat → Stat
 | 0 => ⟨[4], [(4, 1)], [4], [16], [], []⟩
 | 1 => ⟨[1], [], [], [17], [], []⟩
 | 2 => ⟨[2], [], [], [18], [], []⟩
 | 3 => ⟨[10], [], [], [19], [], []⟩
 | 4 => ⟨[16, 17, 18, 19], [], [], [20], [], []⟩
 | 5 => ⟨[4], [(4, 1)], [4], [21], [], []⟩
 | 6 => ⟨[1], [], [], [22], [], []⟩
 | 7 => ⟨[2], [], [], [23], [], []⟩
 | 8 => ⟨[9], [], [], [24], [], []⟩
 | 9 => ⟨[21, 22, 23, 24], [], [], [25], [], []⟩
 | 10 => ⟨[20, 25], [], [], [26], [], []⟩
 | _ => ⟨[], [], [], [], [], []⟩
theorem Mq (f : NF) (N : Net) (v : Nat) (o : Bool) (t : TypeId) (col : List Int) (k : Nat) (hg : bn N = true) (hv : v < N.ends.length) (hl : col.length = N.ends.length) (hk1 : 1 ≤ k) (hk2 : k ≤ 1000) : DCalls Tryz.prog 121 [.agg (bj f N), .c (.p (.int .i64 v)), .c (.sl o t 1 (col.map iC)), .c (.p (.int .i64 k))] (fun r => r = [.c (.p (.int .i64 (er N col v k : Nat)))]) := by
 have hf1 := Mo N col v;refine am Tryz.func121 rfl (by rw [Tryz.ntmps121]; simp) fun w0 => ?_;rw [Tryz.ntmps121];have dX := xw;simp only [bq, bb, Arg.av, bj, bv, ints, ends];refine ab (dR fun K hK => ?_);(repeat refine eV ?_);refine aa (hK _ (wK [1, 2, 3, 4] ?_));clear hK K;refine ab (dR fun K hK => ?_);(repeat refine eV ?_);refine aa (hK _ (wK [1, 2, 3, 4, 9] ?_));clear hK K;refine ab ?_;refine ab (dR fun K hK => ?_);(repeat refine eV ?_);refine aa (hK _ (wK [1, 2, 3, 4, 9, 10] ?_));clear hK K;refine ah ?_;refine ax (X := Nat) (fun c => 1 ≤ c ∧ c ≤ k) (fun c => [(9, .c (.p (.int .i64 (er N col v c : Nat)))), (10, .c (.p (.int .i64 c)))]) (fun c => []) (fun c => k - c) 1 ⟨Nat.le_refl _, hk1⟩ (by first | rfl | (simp only [ac, pZ, simprocAttr, Int.natCast_zero, hf1, Int.natCast_one] <;> rfl)) ?_;rintro c ⟨hc1, hck⟩;intro E hE;simp only [ac, pZ, simprocAttr] at hE;subst hE;refine ab ?_;refine ab (dR fun K hK => ?_);(repeat refine eV ?_);refine aa (hK _ (wK [1, 2, 3, 4, 9, 10, 13] ?_));clear hK K;refine dI ?_ ?_<;>intro hb
 ·have hck1 : c < k := by simpa using hb
  have hfs : er N col v (c + 1) = if dz N col v (c : Int) < dz N col v (er N col v c : Int) then c else er N col v c := rfl
  refine af ?_;show DW _ _ _ _ _;refine ab (ah ?_);have dX := And.intro dX (@fewestSt5.eq_def);refine ab (em fewestSt5 (fun j r => match j with | 4 => r = [.c (.p (.int .i64 (dz N col v (c : Int) : Nat)))] | 9 => r = [.c (.p (.int .i64 (dz N col v (er N col v c : Int) : Nat)))] | _ => True) fun K hK => ?_);(repeat refine dV ?_);have dX := And.intro dX (@fewestSt5.eq_def);refine dcF rfl ⟨rfl, _, rfl⟩ (by omega) (by first | exact xd) (ij ⟨false, f.t1, f.o2, f.t2, false, f.t3, false, f.t4⟩ N v o t col c hg hv hl) ?_;rintro _ rfl;(repeat refine dV ?_);have dX := And.intro dX (@fewestSt5.eq_def);refine dcF rfl ⟨rfl, _, rfl⟩ (by omega) (by first | exact xd) (ij ⟨false, f.t1, f.o2, f.t2, false, f.t3, false, f.t4⟩ N v o t col (er N col v c : Nat) hg hv hl) ?_;rintro _ rfl;(repeat refine dV ?_);refine a6 (hK _ (wK [1, 2, 3, 4, 9, 10, 26] ?_));clear hK K;refine dI ?_ ?_<;>intro hb
  ·have hlt : dz N col v (c : Int) < dz N col v (er N col v c : Int) := by simpa using hb
   have hfe : er N col v (c + 1) = c := by rw [hfs, if_pos hlt]
   refine dR fun K hK => ?_;(repeat refine eV ?_);refine aa (hK _ (wK [1, 2, 3, 4, 9, 10] ?_));clear hK K;refine dR fun K hK => ?_;(repeat refine eV ?_);have dK := And.intro @bu @hfe;refine aa (hK _ ?_);clear hK K;show ∃ x, _ ∧ _ ∧ Weak _ _;refine ⟨c + 1, ?_, ?_, ay [1, 2, 3, 4, 9, 10]⟩
   ·exact ⟨by omega, hck1⟩
   ·omega
  ·have hlt : ¬ dz N col v (c : Int) < dz N col v (er N col v c : Int) := by simpa using hb
   have hfe : er N col v (c + 1) = er N col v c := by rw [hfs, if_neg hlt]
   refine af ?_;show DW _ _ _ _ _;refine dR fun K hK => ?_;(repeat refine eV ?_);have dK := And.intro @bu @hfe;refine aa (hK _ ?_);clear hK K;show ∃ x, _ ∧ _ ∧ Weak _ _;refine ⟨c + 1, ?_, ?_, ay [1, 2, 3, 4, 9, 10]⟩
   ·exact ⟨by omega, hck1⟩
   ·omega
 ·have hc2 : c = k := by
   have : ¬ c < k := by simpa using hb
   omega
  rw [hc2];refine ao ?_;refine ba [9] (by simp only [ac, pZ, simprocAttr]; exact rfl) ?_;refine ab (dR fun K hK => ?_);(repeat refine eV ?_);refine aa (hK _ (wK [8] ?_));clear hK K;exact aj (al Tryz.results121 (.one (.plain _ _ rfl)) (by decide) rfl)
def crB (N : Net) (k : Nat) (col : List Int) (v : Nat) : Bool := decide ((dz N col v (gi col v) : Int) > (((gl N.ends v).length / k : Nat) : Int))
def crw (N : Net) (k : Nat) (col : List Int) : Int := n6 col.length (crB N k col)
def ruCrwSt4 : Nat → Stat
 | 0 => ⟨[3], [(3, 1)], [3], [16], [], []⟩
 | 1 => ⟨[1], [], [], [17], [], []⟩
 | 2 => ⟨[7], [], [], [18], [], []⟩
 | 3 => ⟨[8], [], [], [19], [], []⟩
 | 4 => ⟨[16, 17, 18, 19], [], [], [20], [], []⟩
 | 5 => ⟨[3], [(3, 1)], [], [21], [], []⟩
 | 6 => ⟨[21], [(3, 1)], [], [22], [], []⟩
 | 7 => ⟨[7], [], [], [23], [], []⟩
 | 8 => ⟨[22, 23], [], [], [24], [], []⟩
 | 9 => ⟨[24], [], [], [25], [], []⟩
 | 10 => ⟨[25], [], [], [26], [], []⟩
 | 11 => ⟨[2], [], [], [27], [], []⟩
 | 12 => ⟨[26, 27], [], [], [28], [], []⟩
 | 13 => ⟨[20, 28], [], [], [29], [], []⟩
 | _ => ⟨[], [], [], [], [], []⟩
theorem tn (f : NF) (N : Net) (o : Bool) (t : TypeId) (col : List Int) (k : Nat) (hg : bn N = true) (hl : col.length = N.ends.length) (hk1 : 1 ≤ k) (hk2 : k ≤ 1000) : DCalls Tryz.prog 123 [.agg (bj f N), .c (.sl o t 1 (col.map iC)), .c (.p (.int .i64 k))] (fun r => r = [.c (.p (.int .i64 (crw N k col)))]) := by
 obtain ⟨hs, hn, hids, hdg⟩ := b0 hg;have hk0 : ((k : Int) = 0) ↔ False := ⟨fun h => by omega, fun h => h.elim⟩;refine am Tryz.func123 rfl (by rw [Tryz.ntmps123]; simp) fun w0 => ?_;rw [Tryz.ntmps123];have dX := xw;simp only [bq, bb, Arg.av, bj, bv, ints, ends];refine ab (dR fun K hK => ?_);(repeat refine eV ?_);refine aa (hK _ (wK [1, 2, 3] ?_));clear hK K;refine ab ?_;refine ab (dR fun K hK => ?_);(repeat refine eV ?_);refine aa (hK _ (wK [1, 2, 3, 9, 10, 11] ?_));clear hK K;refine ah ?_;refine ax (X := Nat) (fun v => v ≤ col.length ∧ ∀ u, u < v → crB N k col u = false) (fun v => [(11, .c (.p (.int .i64 v)))]) (fun v => []) (fun v => col.length - v) 0 ⟨Nat.zero_le _, fun u hu => absurd hu (Nat.not_lt_zero u)⟩ (by first | rfl | (simp only [ac, pZ, simprocAttr, Int.natCast_zero] <;> rfl)) ?_;rintro v ⟨hv, hr⟩;intro E hE;simp only [ac, pZ, simprocAttr] at hE;subst hE;refine ab (dR fun K hK => ?_);(repeat refine eV ?_);refine aa (hK _ (wK [1, 2, 3, 9, 10, 11, 12] ?_));clear hK K;refine ab (dI (fun hb => ?_) (fun hb => ?_))
 ·have hv1 : v < col.length := by simpa using hb
  have hvl : v < N.ends.length := by omega
  have hdv := hdg v;have htd : Int.tdiv ((gl N.ends v).length : Int) (k : Int) = (((gl N.ends v).length / k : Nat) : Int) := rfl;have hdl : (gl N.ends v).length / k ≤ (gl N.ends v).length := Nat.div_le_self _ _;obtain ⟨q, hq⟩ : ∃ q, q = (gl N.ends v).length / k := ⟨_, rfl⟩;rw [← hq] at htd hdl;have hcr : crB N k col v = decide ((dz N col v (gi col v) : Int) > (q : Int)) := by rw [hq]; rfl
  refine af ?_;show DW _ _ _ _ _;refine ab (ah ?_);refine ab (dR fun K hK => ?_);(repeat refine eV ?_);refine aa (hK _ (wK [1, 2, 3, 7, 8, 9, 10, 11] ?_));clear hK K;have dX := And.intro dX (And.intro @ruCrwSt4.eq_def @Int.toNat_natCast);refine ab (em ruCrwSt4 (fun j r => match j with | 4 => r = [.c (.p (.int .i64 (dz N col v (gi col v) : Nat)))] | _ => True) fun K hK => ?_);(repeat refine dV ?_);have dX := And.intro dX (@ruCrwSt4.eq_def);refine dcF rfl ⟨rfl, _, rfl⟩ (by omega) (by first | exact xc) (mc ⟨false, f.t1, f.o2, f.t2, false, f.t3, false, f.t4⟩ N o t col v (gi col v) hg hvl hl) ?_;rintro _ rfl;(repeat refine dV ?_);have dX := And.intro dX (And.intro @ruCrwSt4.eq_def (And.intro @Int.toNat_natCast (And.intro @hk0 @htd)));(repeat refine dV ?_);have dK := And.intro @htd (Eq.symm hcr);refine a6 (hK _ (a7 [1, 2, 3, 7, 9, 10, 11, 29] ?_));clear hK K;refine dI ?_ ?_<;>intro hb
  ·have hi : crw N k col = v := sh hv1 hb hr;refine ab (dR fun K hK => ?_);(repeat refine eV ?_);refine aa (hK _ (wK [6] ?_));clear hK K;exact aj (al Tryz.results123 (.one (.plain _ _ rfl)) (by decide) (by rw [hi]))
  ·refine af ?_;show DW _ _ _ _ _;refine dR fun K hK => ?_;(repeat refine eV ?_);have dK := @bu;refine aa (hK _ ?_);clear hK K;show ∃ x, _ ∧ _ ∧ Weak _ _;refine ⟨v + 1, ?_, ?_, ay [1, 2, 3, 9, 10, 11]⟩
   ·exact ⟨hv1, fun u hu => by by_cases h : u = v; (rw [h]; exact hb); exact hr u (by omega)⟩
   ·omega
 ·have hv2 : v = col.length := by
   have : ¬ v < col.length := by simpa using hb
   omega
  have hi : crw N k col = -1 := si (hv2 ▸ hr);refine ao ?_;refine ba [] (by simp only [ac, pZ, simprocAttr]; exact rfl) ?_;refine ab (dR fun K hK => ?_);(repeat refine eV ?_);refine aa (hK _ (wK [6] ?_));clear hK K;exact aj (al Tryz.results123 (.one (.plain _ _ rfl)) (by decide) (by rw [hi]))
end
section
set_option maxHeartbeats 0
set_option maxRecDepth 8000
open Go Go.RowKit
def dfs (N : Net) (k : Nat) : Nat → List Int
 | 0 => List.replicate N.ends.length 0
 | s + 1 => (dfs N k s).set (crw N k (dfs N k s)).toNat (er N (dfs N k s) (crw N k (dfs N k s)).toNat k : Nat)
theorem fm (N : Net) (k : Nat) : ∀ s, (dfs N k s).length = N.ends.length
 | 0 => List.length_replicate
 | s + 1 => by rw [dfs, List.length_set, fm N k s]
theorem Gc {N : Net} {k : Nat} {col : List Int} (h : crw N k col ≠ -1) : ∃ v : Nat, crw N k col = v ∧ v < col.length ∧ crB N k col v = true := by
 unfold crw n6 at h ⊢
 cases hf : (List.range col.length).find? (crB N k col) with
 | none => rw [hf] at h; exact absurd rfl h
 | some i =>
  have h1 := List.find?_some hf;have h2 := List.mem_of_find?_eq_some hf;exact ⟨i, rfl, List.mem_range.1 h2, h1⟩
def dfcSt1 : Nat → Stat
 | 0 => ⟨[1], [], [], [6], [], []⟩
 | 1 => ⟨[0], [], [], [7], [], []⟩
 | 2 => ⟨[2], [], [], [8], [], []⟩
 | 3 => ⟨[2], [], [], [9], [], []⟩
 | 4 => ⟨[0], [], [], [10], [], []⟩
 | 5 => ⟨[9, 10], [], [], [11], [], []⟩
 | 6 => ⟨[11], [], [], [12], [], []⟩
 | 7 => ⟨[6, 7, 8, 12], [], [], [13], [], []⟩
 | 8 => ⟨[1], [], [], [14], [], []⟩
 | 9 => ⟨[14], [], [], [15], [], []⟩
 | 10 => ⟨[0], [], [], [16], [], []⟩
 | 11 => ⟨[15, 16], [], [], [17], [], []⟩
 | 12 => ⟨[17], [], [], [18], [], []⟩
 | 13 => ⟨[18], [], [], [19], [], []⟩
 | 14 => ⟨[3], [], [], [20], [], []⟩
 | 15 => ⟨[19, 20], [], [], [21], [], []⟩
 | 16 => ⟨[13, 21], [], [], [22], [], []⟩
 | 17 => ⟨[22], [], [], [5], [], []⟩
 | _ => ⟨[], [], [], [], [], []⟩
def zBDf41 := PLift.up (And.intro aq (And.intro bp (And.intro cr (And.intro b6 (And.intro bl (And.intro @if_pos.{1} (And.intro @cl (And.intro bt (And.intro @di (And.intro @dq (And.intro @bw (And.intro @ca (And.intro @ck @trivial)))))))))))))
theorem xu : type_of% zBDf41.down := zBDf41.down
theorem Sa (f : NF) (N : Net) (o : Bool) (t : TypeId) (col : List Int) (k v : Nat) (hg : bn N = true) (hv : v < N.ends.length) (hl : col.length = N.ends.length) (hk1 : 1 ≤ k) (hk2 : k ≤ 1000) : DCalls Tryz.prog 119 [.c (.p (.int .i64 v)), .rp (bj f N), .rp [.sl o t 1 (col.map iC)], .rp [.p (.int .i64 k)]] (fun r => r = [.c (.p (.bool (crB N k col v)))]) := by
 obtain ⟨hs, hn, hids, hdg⟩ := b0 hg;have hk0 : ((k : Int) = 0) ↔ False := ⟨fun h => by omega, fun h => h.elim⟩;have hdv := hdg v;have htd : Int.tdiv ((gl N.ends v).length : Int) (k : Int) = (((gl N.ends v).length / k : Nat) : Int) := rfl;have hdl : (gl N.ends v).length / k ≤ (gl N.ends v).length := Nat.div_le_self _ _;obtain ⟨q, hq⟩ : ∃ q, q = (gl N.ends v).length / k := ⟨_, rfl⟩;rw [← hq] at htd hdl;have hcr : crB N k col v = decide ((dz N col v (gi col v) : Int) > (q : Int)) := by rw [hq]; rfl
 refine am Tryz.func119 rfl (by rw [Tryz.ntmps119]; simp) fun w0 => ?_;rw [Tryz.ntmps119];have dX := xu;simp only [bq, bb, Arg.av, bj, bv, ints, ends];refine ab (dR fun K hK => ?_);(repeat refine eV ?_);refine aa (hK _ (wK [0, 1, 2, 3] ?_));clear hK K;have dX := And.intro dX (And.intro @dfcSt1.eq_def @Int.toNat_natCast);refine ab (em dfcSt1 (fun j r => match j with | 7 => r = [.c (.p (.int .i64 (dz N col v (gi col v) : Nat)))] | _ => True) fun K hK => ?_);(repeat refine dV ?_);have dX := And.intro dX (@dfcSt1.eq_def);refine dcF rfl ⟨rfl, _, rfl⟩ (by omega) (by first | exact xd) (ij f N v o t col (gi col v) hg hv hl) ?_;rintro _ rfl;(repeat refine dV ?_);have dX := And.intro dX (And.intro @dfcSt1.eq_def (And.intro @Int.toNat_natCast (And.intro @hk0 @htd)));(repeat refine dV ?_);have dK := @htd;refine a6 (hK _ (a7 [5] ?_));clear hK K;exact aj (al Tryz.results119 (.one (.plain _ _ rfl)) (by decide) (by rw [hcr]))
theorem ls (f : NF) (N : Net) (k : Int) (h : (bn N && plB N && inB k 1 10) = false) (hi : N.ids.length ≤ 1000000) : DCalls Tryz.prog 34 [.agg (bj f N), .c (.p (.int .i64 k))] (fun r => r = [.own false [.sl true 3 1 (([] : List Int).map iC)], .c (.p (.int .i64 0)), .c (.p (.bool false))]) := by
 refine am Tryz.func34 rfl (by rw [Tryz.ntmps34]; simp) fun w0 => ?_;rw [Tryz.ntmps34];have dX := xu;simp only [bq, bb, Arg.av, bj, bv, ints, ends];refine ab (dR fun K hK => ?_);(repeat refine eV ?_);refine aa (hK _ (wK [2, 3] ?_));clear hK K;refine ab ?_;refine ab (dR fun K hK => ?_);(repeat refine eV ?_);refine cL rfl ⟨rfl, _, rfl⟩ (by omega) (by first | exact jc | exact w9 | exact sd) (d7 ⟨false, f.t1, f.o2, f.t2, false, f.t3, false, f.t4⟩ N (by omega)) ?_;rintro _ rfl;(repeat refine eV ?_);obtain h1 | h1 := Bool.eq_false_or_eq_true (bn N)
 ·have dX := And.intro dX (@h1);(repeat refine eV ?_);have dX := And.intro dX (@h1);refine cgF rfl rfl ⟨rfl, _, rfl⟩ (by omega) (by first | exact jc | exact w9 | exact sd) (vm k 1 10) ?_;rintro _ rfl;(repeat refine eV ?_);obtain h2 | h2 := Bool.eq_false_or_eq_true (inB k 1 10)
  ·have h3 : plB N = false := by rw [h1, h2] at h; simpa using h
   have dX := And.intro dX (And.intro @h1 @h2);(repeat refine eV ?_);have dX := And.intro dX (And.intro @h1 @h2);refine cgF rfl rfl ⟨rfl, _, rfl⟩ (by omega) (by first | exact jc | exact w9 | exact sd) (xl ⟨false, f.t1, f.o2, f.t2, false, f.t3, false, f.t4⟩ N h1) ?_;rintro _ rfl;(repeat refine eV ?_);have dX := And.intro dX (And.intro @h1 (And.intro @h2 @h3));(repeat refine eV ?_);have dK := And.intro @h1 (And.intro @h2 @h3);refine aa (hK _ (a7 [2, 3, 21] ?_));clear hK K;refine dI ?_ ?_<;>intro hb
   ·refine ab (dR fun K hK => ?_);(repeat refine eV ?_);refine aa (hK _ (wK [4, 5, 6] ?_));clear hK K;refine fu 4 3 1 (by decide) (by simp only [ac, pZ, simprocAttr]) [4, 5, 6] (by simp only [ac, pZ, simprocAttr]; exact rfl) ?_;exact aj (al Tryz.results34 (.three (.own _ _ _ _ rfl rfl (own1 (bo _ []))) (.plain _ _ rfl) (.plain _ _ rfl)) (by decide) rfl)
   ·cases hb
  ·have dX := And.intro dX (And.intro @h1 @h2);(repeat refine eV ?_);have dX := And.intro dX (And.intro @h1 @h2);refine csF ?_;(repeat refine eV ?_);have dX := And.intro dX (And.intro @h1 @h2);(repeat refine eV ?_);have dK := And.intro @h1 @h2;refine aa (hK _ (a7 [2, 3, 21] ?_));clear hK K;refine dI ?_ ?_<;>intro hb
   ·refine ab (dR fun K hK => ?_);(repeat refine eV ?_);refine aa (hK _ (wK [4, 5, 6] ?_));clear hK K;refine fu 4 3 1 (by decide) (by simp only [ac, pZ, simprocAttr]) [4, 5, 6] (by simp only [ac, pZ, simprocAttr]; exact rfl) ?_;exact aj (al Tryz.results34 (.three (.own _ _ _ _ rfl rfl (own1 (bo _ []))) (.plain _ _ rfl) (.plain _ _ rfl)) (by decide) rfl)
   ·cases hb
 ·have dX := And.intro dX (@h1);(repeat refine eV ?_);have dX := And.intro dX (@h1);refine csF ?_;(repeat refine eV ?_);have dX := And.intro dX (@h1);(repeat refine eV ?_);have dX := And.intro dX (@h1);refine csF ?_;(repeat refine eV ?_);have dX := And.intro dX (@h1);(repeat refine eV ?_);have dK := @h1;refine aa (hK _ (a7 [2, 3, 21] ?_));clear hK K;refine dI ?_ ?_<;>intro hb
  ·refine ab (dR fun K hK => ?_);(repeat refine eV ?_);refine aa (hK _ (wK [4, 5, 6] ?_));clear hK K;refine fu 4 3 1 (by decide) (by simp only [ac, pZ, simprocAttr]) [4, 5, 6] (by simp only [ac, pZ, simprocAttr]; exact rfl) ?_;exact aj (al Tryz.results34 (.three (.own _ _ _ _ rfl rfl (own1 (bo _ []))) (.plain _ _ rfl) (.plain _ _ rfl)) (by decide) rfl)
  ·cases hb
theorem l6 (f : NF) (N : Net) (k : Int) (h : (bn N && plB N && inB k 1 10) = false) : DCalls Tryz.prog 35 [.agg (bj f N), .c (.p (.int .i64 k))] (fun r => r = [.own false [.sl true 3 1 (([] : List Int).map iC)], .c (.p (.int .i64 0)), .c (.p (.bool false))]) := by
 refine am Tryz.func35 rfl (by rw [Tryz.ntmps35]; simp) fun w0 => ?_;rw [Tryz.ntmps35];have dX := xu;simp only [bq, bb, Arg.av, bj, bv, ints, ends];refine ab (dR fun K hK => ?_);(repeat refine eV ?_);refine aa (hK _ (wK [1, 2] ?_));clear hK K;refine ab ?_;refine ab (dR fun K hK => ?_);(repeat refine eV ?_);refine cL rfl ⟨rfl, _, rfl⟩ (by omega) (by first | exact od | exact sc | exact w6) (qk ⟨false, f.t1, f.o2, f.t2, false, f.t3, false, f.t4⟩ N) ?_;rintro _ rfl;(repeat refine eV ?_);obtain h1 | h1 := Bool.eq_false_or_eq_true (bn N)
 ·have dX := And.intro dX (@h1);(repeat refine eV ?_);have dX := And.intro dX (@h1);refine cgF rfl rfl ⟨rfl, _, rfl⟩ (by omega) (by first | exact od | exact sc | exact w6) (zh ⟨false, f.t1, f.o2, f.t2, false, f.t3, false, f.t4⟩ N h1) ?_;rintro _ rfl;(repeat refine eV ?_);obtain h2 | h2 := Bool.eq_false_or_eq_true (plB N)
  ·have h3 : inB k 1 10 = false := by rw [h1, h2] at h; simpa using h
   have dX := And.intro dX (And.intro @h1 @h2);(repeat refine eV ?_);have dX := And.intro dX (And.intro @h1 @h2);refine cgF rfl rfl ⟨rfl, _, rfl⟩ (by omega) (by first | exact od | exact sc | exact w6) (Fp k 1 10) ?_;rintro _ rfl;(repeat refine eV ?_);have dX := And.intro dX (And.intro @h1 (And.intro @h2 @h3));(repeat refine eV ?_);have dK := And.intro @h1 (And.intro @h2 @h3);refine aa (hK _ (a7 [1, 2, 24] ?_));clear hK K;refine dI ?_ ?_<;>intro hb
   ·refine ab (dR fun K hK => ?_);(repeat refine eV ?_);refine aa (hK _ (wK [4, 5, 6] ?_));clear hK K;refine fu 4 3 1 (by decide) (by simp only [ac, pZ, simprocAttr]) [4, 5, 6] (by simp only [ac, pZ, simprocAttr]; exact rfl) ?_;exact aj (al Tryz.results35 (.three (.own _ _ _ _ rfl rfl (own1 (bo _ []))) (.plain _ _ rfl) (.plain _ _ rfl)) (by decide) rfl)
   ·cases hb
  ·have dX := And.intro dX (And.intro @h1 @h2);(repeat refine eV ?_);have dX := And.intro dX (And.intro @h1 @h2);refine csF ?_;(repeat refine eV ?_);have dX := And.intro dX (And.intro @h1 @h2);(repeat refine eV ?_);have dK := And.intro @h1 @h2;refine aa (hK _ (a7 [1, 2, 24] ?_));clear hK K;refine dI ?_ ?_<;>intro hb
   ·refine ab (dR fun K hK => ?_);(repeat refine eV ?_);refine aa (hK _ (wK [4, 5, 6] ?_));clear hK K;refine fu 4 3 1 (by decide) (by simp only [ac, pZ, simprocAttr]) [4, 5, 6] (by simp only [ac, pZ, simprocAttr]; exact rfl) ?_;exact aj (al Tryz.results35 (.three (.own _ _ _ _ rfl rfl (own1 (bo _ []))) (.plain _ _ rfl) (.plain _ _ rfl)) (by decide) rfl)
   ·cases hb
 ·have dX := And.intro dX (@h1);(repeat refine eV ?_);have dX := And.intro dX (@h1);refine csF ?_;(repeat refine eV ?_);have dX := And.intro dX (@h1);(repeat refine eV ?_);have dX := And.intro dX (@h1);refine csF ?_;(repeat refine eV ?_);have dX := And.intro dX (@h1);(repeat refine eV ?_);have dK := @h1;refine aa (hK _ (a7 [1, 2, 24] ?_));clear hK K;refine dI ?_ ?_<;>intro hb
  ·refine ab (dR fun K hK => ?_);(repeat refine eV ?_);refine aa (hK _ (wK [4, 5, 6] ?_));clear hK K;refine fu 4 3 1 (by decide) (by simp only [ac, pZ, simprocAttr]) [4, 5, 6] (by simp only [ac, pZ, simprocAttr]; exact rfl) ?_;exact aj (al Tryz.results35 (.three (.own _ _ _ _ rfl rfl (own1 (bo _ []))) (.plain _ _ rfl) (.plain _ _ rfl)) (by decide) rfl)
  ·cases hb
def dfcSt9 : Nat → Stat
 | 0 => ⟨[7], [(7, 1)], [], [37], [], []⟩
 | 1 => ⟨[9], [], [], [38], [], []⟩
 | 2 => ⟨[2], [(2, 1)], [2], [39], [], []⟩
 | 3 => ⟨[9], [], [], [40], [], []⟩
 | 4 => ⟨[7], [(7, 1)], [7], [41], [], []⟩
 | 5 => ⟨[3], [(3, 1)], [], [42], [], []⟩
 | 6 => ⟨[39, 40, 41, 42], [(7, 1)], [7], [43], [], []⟩
 | 7 => ⟨[37, 38], [(7, 1)], [], [44], [], []⟩
 | 8 => ⟨[44, 43], [(7, 2)], [], [], [(7, 2)], []⟩
 | _ => ⟨[], [], [], [], [], []⟩
theorem l7 (f : NF) (N : Net) (k S : Nat) (hg : bn N = true) (hp : plB N = true) (hk1 : 1 ≤ k) (hk2 : k ≤ 10) (hS : crw N k (dfs N k S) = -1) (hlt : ∀ s, s < S → crw N k (dfs N k s) ≠ -1) (hSl : S ≤ 1000000) : DCalls Tryz.prog 34 [.agg (bj f N), .c (.p (.int .i64 k))] (fun r => r = [.own false [.sl true 3 1 ((dfs N k S).map iC)], .c (.p (.int .i64 S)), .c (.p (.bool true))]) := by
 obtain ⟨hs, hn, hids, hdg⟩ := b0 hg;have hin : inB (k : Int) 1 10 = true := db.2 (by omega);have hd0 : List.replicate N.ends.length 0 = dfs N k 0 := rfl;refine am Tryz.func34 rfl (by rw [Tryz.ntmps34]; simp) fun w0 => ?_;rw [Tryz.ntmps34];have dX := xu;simp only [bq, bb, Arg.av, bj, bv, ints, ends];refine ab (dR fun K hK => ?_);(repeat refine eV ?_);refine aa (hK _ (wK [2, 3] ?_));clear hK K;refine ab ?_;refine ab (dR fun K hK => ?_);(repeat refine eV ?_);refine cL rfl ⟨rfl, _, rfl⟩ (by omega) (by first | exact jc | exact w9 | exact sd) (d7 ⟨false, f.t1, f.o2, f.t2, false, f.t3, false, f.t4⟩ N (by omega)) ?_;rintro _ rfl;(repeat refine eV ?_);have dX := And.intro dX (@hg);(repeat refine eV ?_);have dX := And.intro dX (@hg);refine cgF rfl rfl ⟨rfl, _, rfl⟩ (by omega) (by first | exact jc | exact w9 | exact sd) (vm k 1 10) ?_;rintro _ rfl;(repeat refine eV ?_);have dX := And.intro dX (And.intro @hg @hin);(repeat refine eV ?_);have dX := And.intro dX (And.intro @hg @hin);refine cgF rfl rfl ⟨rfl, _, rfl⟩ (by omega) (by first | exact jc | exact w9 | exact sd) (xl ⟨false, f.t1, f.o2, f.t2, false, f.t3, false, f.t4⟩ N hg) ?_;rintro _ rfl;(repeat refine eV ?_);have dX := And.intro dX (And.intro @hg (And.intro @hin @hp));(repeat refine eV ?_);have dK := And.intro @hg (And.intro @hin @hp);refine aa (hK _ (a7 [2, 3, 21] ?_));clear hK K;refine dI ?_ ?_<;>intro hb
 ·cases hb
 ·refine af ?_;show DW _ _ _ _ _;have dX := And.intro dX (And.intro @Gp @hd0);refine ab (dR fun K hK => ?_);(repeat refine eV ?_);have dK := And.intro @Gp @hd0;refine aa (hK _ (a7 [2, 3, 7] ?_));clear hK K;refine ab (dR fun K hK => ?_);(repeat refine eV ?_);refine aa (hK _ (wK [2, 3, 7, 8] ?_));clear hK K;refine ah ?_;refine ax (X := Nat) (fun s => s ≤ S) (fun s => [(8, .c (.p (.int .i64 s)))]) (fun s => [((7, 0), ⟨some 25, [.sl true 3 1 ((dfs N k s).map iC)]⟩)]) (fun s => S - s) 0 (Nat.zero_le _) (by first | rfl | (simp only [ac, pZ, simprocAttr, Int.natCast_zero] <;> rfl)) ?_;rintro s hs1;intro E hE;simp only [ac, pZ, simprocAttr] at hE;subst hE;have hsl := fm N k s;have hsucc : dfs N k (s + 1) = (dfs N k s).set (crw N k (dfs N k s)).toNat (er N (dfs N k s) (crw N k (dfs N k s)).toNat k : Nat) := rfl;have hne := hlt s;have heq : s = S → crw N k (dfs N k s) = -1 := fun h => by rw [h]; exact hS
  obtain ⟨col, hcol⟩ : ∃ col, col = dfs N k s := ⟨_, rfl⟩;rw [← hcol] at hsl hsucc hne heq ⊢;have hul := dy N.ends.length
  have hclo : ∀ j, j < (en N.ends.length).length → DCalls Tryz.prog 119 ([.c (.p (.int .i64 (gi (en N.ends.length) j)))] ++ [bj ⟨false, f.t1, f.o2, f.t2, false, f.t3, false, f.t4⟩ N, [C.sl true 3 1 (col.map iC)], [C.p (.int .i64 (k : Int))]].map .rp) (fun r => r = [.c (.p (.bool (crB N k col j)))]) := fun j hj => by
   have hgj : gi (en N.ends.length) j = (j : Int) := vt (by rw [hul] at hj; exact hj);rw [hgj];exact Sa ⟨false, f.t1, f.o2, f.t2, false, f.t3, false, f.t4⟩ N true 3 col k j hg (by rw [hul] at hj; exact hj) hsl hk1 (by omega)
  simp only [bj, bv, ints, ends] at hclo;have hfs : n6 (en N.ends.length).length (crB N k col) = crw N k col := by rw [hul, ← hsl]; rfl
  refine ab (ah ?_);refine ab (dR fun K hK => ?_)
  repeat (apply cm; (focus exact rfl); (focus (simp (disch := first | omega | (intros; contradiction)) only [ac, bh, pZ, simprocAttr, aq, bp, cr, b6, bl, if_pos, cl, bt, di, dq, bw, ca, ck , xb, jd, hsl]; exact rfl)))
  refine f9 rfl ⟨rfl, _, rfl⟩ (by omega) (by first | exact xb | exact jd) (by simp (disch := first | omega | (intros; contradiction)) only [ac, bh, pZ, simprocAttr, aq, bp, cr, b6, bl, if_pos, cl, bt, di, dq, bw, ca, ck , xb, jd, hsl] <;> exact rfl) (Db N.ends.length (by omega)) ?_;rintro _ rfl
  repeat (apply cm; (focus exact rfl); (focus (simp (disch := first | omega | (intros; contradiction)) only [ac, bh, pZ, simprocAttr, aq, bp, cr, b6, bl, if_pos, cl, bt, di, dq, bw, ca, ck , xb, jd, hsl]; exact rfl)))
  refine f9 rfl ⟨rfl, _, rfl⟩ (by omega) (by first | exact xb | exact jd) (by simp (disch := first | omega | (intros; contradiction)) only [ac, bh, pZ, simprocAttr, aq, bp, cr, b6, bl, if_pos, cl, bt, di, dq, bw, ca, ck , xb, jd, hsl] <;> exact rfl) (ui true 3 (en N.ends.length) 119 _ (crB N k col) (by omega) Ri hclo) ?_;rintro _ rfl
  repeat (apply cm; (focus exact rfl); (focus (simp (disch := first | omega | (intros; contradiction)) only [ac, bh, pZ, simprocAttr, aq, bp, cr, b6, bl, if_pos, cl, bt, di, dq, bw, ca, ck , xb, jd, hsl]; exact rfl)))
  have dK := @hfs;refine aa (hK _ (a7 [2, 3, 7, 8, 9] ?_));clear hK K
  by_cases hsS : s = S
  ·have hc := heq hsS;rw [hc];refine ab ?_;refine ab (dR fun K hK => ?_);(repeat refine eV ?_);refine aa (hK _ (wK [2, 3, 7, 8, 9, 34] ?_));clear hK K;refine dI ?_ ?_<;>intro hb
   ·refine ab (dR fun K hK => ?_);(repeat refine eV ?_);refine aa (hK _ (wK [4, 5, 6] ?_));clear hK K;exact aj (al Tryz.results34 (.three (.own _ _ _ _ rfl rfl (own1 (bo _ _))) (.plain _ _ rfl) (.plain _ _ rfl)) (by decide) (by rw [hcol, hsS]))
   ·cases hb
  ·obtain ⟨v, hv, hvl, -⟩ := Gc (hne (by omega));rw [hv, Int.toNat_natCast] at hsucc;rw [hv];have hfl := Bu N col v k;have d1 : decide ((v : Int) < 0) = false := decide_eq_false (by omega);refine ab ?_;have dX := And.intro dX (@d1);refine ab (dR fun K hK => ?_);(repeat refine eV ?_);have dK := @d1;refine aa (hK _ (a7 [2, 3, 7, 8, 9, 34] ?_));clear hK K;refine dI ?_ ?_<;>intro hb
   ·cases hb
   ·refine af ?_;show DW _ _ _ _ _;have dX := And.intro dX (And.intro @dfcSt9.eq_def @Int.toNat_natCast);refine em dfcSt9 (fun j r => match j with | 6 => r = [.c (.p (.int .i64 (er N col v k : Nat)))] | _ => True) fun K hK => ?_;(repeat refine dV ?_);have dX := And.intro dX (@dfcSt9.eq_def);refine dcF rfl ⟨rfl, _, rfl⟩ (by omega) (by first | exact Rh) (Mq ⟨false, f.t1, f.o2, f.t2, false, f.t3, false, f.t4⟩ N v true 3 col k hg (by omega) hsl hk1 (by omega)) ?_;rintro _ rfl;(repeat refine dV ?_);have dX := And.intro dX (And.intro @dfcSt9.eq_def (And.intro @Int.toNat_natCast @wn));(repeat refine dV ?_);have dK := And.intro @wn (Eq.symm hsucc);refine a6 (hK _ (a7 [2, 3, 7, 8] ?_));clear hK K;refine dR fun K hK => ?_;(repeat refine eV ?_);have dK := @bu;refine aa (hK _ ?_);clear hK K;show ∃ x, _ ∧ _ ∧ Weak _ _;refine ⟨s + 1, ?_, ?_, ay [2, 3, 7, 8]⟩
    ·omega
    ·omega
def dfcSt11 : Nat → Stat
 | 0 => ⟨[2], [(2, 1)], [2], [44], [], []⟩
 | 1 => ⟨[7], [], [], [45], [], []⟩
 | 2 => ⟨[9], [], [], [46], [], []⟩
 | 3 => ⟨[11], [], [], [47], [], []⟩
 | 4 => ⟨[44, 45, 46, 47], [], [7], [48], [], []⟩
 | 5 => ⟨[2], [(2, 1)], [2], [49], [], []⟩
 | 6 => ⟨[7], [], [], [50], [], []⟩
 | 7 => ⟨[9], [], [], [51], [], []⟩
 | 8 => ⟨[10], [], [], [52], [], []⟩
 | 9 => ⟨[49, 50, 51, 52], [], [7], [53], [], []⟩
 | 10 => ⟨[48, 53], [], [], [54], [], []⟩
 | _ => ⟨[], [], [], [], [], []⟩
theorem ne (f : NF) (N : Net) (k S : Nat) (hg : bn N = true) (hp : plB N = true) (hk1 : 1 ≤ k) (hk2 : k ≤ 10) (hS : crw N k (dfs N k S) = -1) (hlt : ∀ s, s < S → crw N k (dfs N k s) ≠ -1) (hSl : S ≤ 1000000) : DCalls Tryz.prog 35 [.agg (bj f N), .c (.p (.int .i64 k))] (fun r => r = [.own false [.sl true 3 1 ((dfs N k S).map iC)], .c (.p (.int .i64 S)), .c (.p (.bool true))]) := by
 obtain ⟨hs, hn, hids, hdg⟩ := b0 hg;have hin : inB (k : Int) 1 10 = true := db.2 (by omega);have hd0 : List.replicate N.ends.length 0 = dfs N k 0 := rfl;refine am Tryz.func35 rfl (by rw [Tryz.ntmps35]; simp) fun w0 => ?_;rw [Tryz.ntmps35];have dX := xu;simp only [bq, bb, Arg.av, bj, bv, ints, ends];refine ab (dR fun K hK => ?_);(repeat refine eV ?_);refine aa (hK _ (wK [1, 2] ?_));clear hK K;refine ab ?_;refine ab (dR fun K hK => ?_);(repeat refine eV ?_);refine cL rfl ⟨rfl, _, rfl⟩ (by omega) (by first | exact od | exact sc | exact w6) (qk ⟨false, f.t1, f.o2, f.t2, false, f.t3, false, f.t4⟩ N) ?_;rintro _ rfl;(repeat refine eV ?_);have dX := And.intro dX (@hg);(repeat refine eV ?_);have dX := And.intro dX (@hg);refine cgF rfl rfl ⟨rfl, _, rfl⟩ (by omega) (by first | exact od | exact sc | exact w6) (zh ⟨false, f.t1, f.o2, f.t2, false, f.t3, false, f.t4⟩ N hg) ?_;rintro _ rfl;(repeat refine eV ?_);have dX := And.intro dX (And.intro @hg @hp);(repeat refine eV ?_);have dX := And.intro dX (And.intro @hg @hp);refine cgF rfl rfl ⟨rfl, _, rfl⟩ (by omega) (by first | exact od | exact sc | exact w6) (Fp k 1 10) ?_;rintro _ rfl;(repeat refine eV ?_);have dX := And.intro dX (And.intro @hg (And.intro @hp @hin));(repeat refine eV ?_);have dK := And.intro @hg (And.intro @hp @hin);refine aa (hK _ (a7 [1, 2, 24] ?_));clear hK K;refine dI ?_ ?_<;>intro hb
 ·cases hb
 ·refine af ?_;show DW _ _ _ _ _;have dX := And.intro dX (And.intro @Gp @hd0);refine ab (dR fun K hK => ?_);(repeat refine eV ?_);have dK := And.intro @Gp @hd0;refine aa (hK _ (a7 [1, 2, 7, 8] ?_));clear hK K;refine ab ?_;refine ab (dR fun K hK => ?_);(repeat refine eV ?_);refine cL rfl ⟨rfl, _, rfl⟩ (by omega) (by first | exact Ma) (tn ⟨false, f.t1, f.o2, f.t2, false, f.t3, false, f.t4⟩ N true 3 (dfs N k 0) k hg (fm N k 0) hk1 (by omega)) ?_;rintro _ rfl;(repeat refine eV ?_);refine aa (hK _ (wK [1, 2, 7, 8, 9] ?_));clear hK K;refine ah ?_;refine ax (X := Nat) (fun s => s ≤ S) (fun s => [(8, .c (.p (.int .i64 s))), (9, .c (.p (.int .i64 (crw N k (dfs N k s)))))]) (fun s => [((7, 0), ⟨none, [.sl true 3 1 ((dfs N k s).map iC)]⟩)]) (fun s => S - s) 0 (Nat.zero_le _) (by first | rfl | (simp only [ac, pZ, simprocAttr, Int.natCast_zero] <;> rfl)) ?_;rintro s hs1;intro E hE;simp only [ac, pZ, simprocAttr] at hE;subst hE;have hsl := fm N k s;have hsl2 := fm N k (s + 1);have hsucc : dfs N k (s + 1) = (dfs N k s).set (crw N k (dfs N k s)).toNat (er N (dfs N k s) (crw N k (dfs N k s)).toNat k : Nat) := rfl;have hne := hlt s;have heq : s = S → crw N k (dfs N k s) = -1 := fun h => by rw [h]; exact hS
  obtain ⟨nxt, hnxt⟩ : ∃ nxt, nxt = dfs N k (s + 1) := ⟨_, rfl⟩;rw [← hnxt] at hsucc hsl2;obtain ⟨col, hcol⟩ : ∃ col, col = dfs N k s := ⟨_, rfl⟩;rw [← hcol] at hsl hsucc hne heq ⊢
  by_cases hsS : s = S
  ·have hc := heq hsS;rw [hc];refine ab ?_;refine ab (dR fun K hK => ?_);(repeat refine eV ?_);refine aa (hK _ (wK [1, 2, 7, 8, 9, 34] ?_));clear hK K;refine dI ?_ ?_<;>intro hb
   ·cases hb
   ·refine ao ?_;refine ba [7, 8] (by simp only [ac, pZ, simprocAttr]; exact rfl) ?_;refine ab (dR fun K hK => ?_);(repeat refine eV ?_);refine aa (hK _ (wK [4, 5, 6] ?_));clear hK K;exact aj (al Tryz.results35 (.three (.own _ _ _ _ rfl rfl (own1 (bo _ _))) (.plain _ _ rfl) (.plain _ _ rfl)) (by decide) (by rw [hcol, hsS]))
  ·obtain ⟨v, hv, hvl, -⟩ := Gc (hne (by omega));rw [hv, Int.toNat_natCast] at hsucc;rw [hv];have d1 : decide ((v : Int) ≥ 0) = true := decide_eq_true (by omega);have hf0 : er N col v 0 = 0 := rfl;refine ab ?_;have dX := And.intro dX (@d1);refine ab (dR fun K hK => ?_);(repeat refine eV ?_);have dK := @d1;refine aa (hK _ (a7 [1, 2, 7, 8, 9, 34] ?_));clear hK K;refine dI ?_ ?_<;>intro hb
   ·refine af ?_;show DW _ _ _ _ _;refine ab (ah ?_);refine ab (dR fun K hK => ?_);(repeat refine eV ?_);refine aa (hK _ (wK [1, 2, 7, 8, 9, 10] ?_));clear hK K;refine ab ?_;refine ab (dR fun K hK => ?_);(repeat refine eV ?_);refine aa (hK _ (wK [1, 2, 7, 8, 9, 10, 11] ?_));clear hK K;refine ah ?_;refine ax (X := Nat) (fun c => c ≤ k) (fun c => [(10, .c (.p (.int .i64 (er N col v c : Nat)))), (11, .c (.p (.int .i64 c)))]) (fun c => []) (fun c => k - c) 0 (Nat.zero_le _) (by first | rfl | (simp only [ac, pZ, simprocAttr, Int.natCast_zero, hf0] <;> rfl)) ?_;rintro c hck;intro E hE;simp only [ac, pZ, simprocAttr] at hE;subst hE;refine ab ?_;refine ab (dR fun K hK => ?_);(repeat refine eV ?_);refine aa (hK _ (wK [1, 2, 7, 8, 9, 10, 11, 41] ?_));clear hK K;refine dI ?_ ?_<;>intro hb
    ·have hck1 : c < k := by simpa using hb
     have hfs : er N col v (c + 1) = if dz N col v (c : Int) < dz N col v (er N col v c : Int) then c else er N col v c := rfl
     refine af ?_;show DW _ _ _ _ _;refine ab (ah ?_);have dX := And.intro dX (@dfcSt11.eq_def);refine ab (em dfcSt11 (fun j r => match j with | 4 => r = [.c (.p (.int .i64 (dz N col v (c : Int) : Nat)))] | 9 => r = [.c (.p (.int .i64 (dz N col v (er N col v c : Int) : Nat)))] | _ => True) fun K hK => ?_);(repeat refine dV ?_);have dX := And.intro dX (@dfcSt11.eq_def);refine dcF rfl ⟨rfl, _, rfl⟩ (by omega) (by first | exact xc) (mc ⟨false, f.t1, f.o2, f.t2, false, f.t3, false, f.t4⟩ N true 3 col v c hg (by omega) hsl) ?_;rintro _ rfl;(repeat refine dV ?_);have dX := And.intro dX (@dfcSt11.eq_def);refine dcF rfl ⟨rfl, _, rfl⟩ (by omega) (by first | exact xc) (mc ⟨false, f.t1, f.o2, f.t2, false, f.t3, false, f.t4⟩ N true 3 col v (er N col v c : Nat) hg (by omega) hsl) ?_;rintro _ rfl;(repeat refine dV ?_);refine a6 (hK _ (wK [1, 2, 7, 8, 9, 10, 11, 54] ?_));clear hK K;refine dI ?_ ?_<;>intro hb
     ·have hlt : dz N col v (c : Int) < dz N col v (er N col v c : Int) := by simpa using hb
      have hfe : er N col v (c + 1) = c := by rw [hfs, if_pos hlt]
      refine dR fun K hK => ?_;(repeat refine eV ?_);refine aa (hK _ (wK [1, 2, 7, 8, 9, 10, 11] ?_));clear hK K;refine dR fun K hK => ?_;(repeat refine eV ?_);have dK := And.intro @bu @hfe;refine aa (hK _ ?_);clear hK K;show ∃ x, _ ∧ _ ∧ Weak _ _;refine ⟨c + 1, ?_, ?_, ay [1, 2, 7, 8, 9, 10, 11]⟩
      ·omega
      ·omega
     ·have hlt : ¬ dz N col v (c : Int) < dz N col v (er N col v c : Int) := by simpa using hb
      have hfe : er N col v (c + 1) = er N col v c := by rw [hfs, if_neg hlt]
      refine af ?_;show DW _ _ _ _ _;refine dR fun K hK => ?_;(repeat refine eV ?_);have dK := And.intro @bu @hfe;refine aa (hK _ ?_);clear hK K;show ∃ x, _ ∧ _ ∧ Weak _ _;refine ⟨c + 1, ?_, ?_, ay [1, 2, 7, 8, 9, 10, 11]⟩
      ·omega
      ·omega
    ·have hc2 : c = k := by
      have : ¬ c < k := by simpa using hb
      omega
     rw [hc2];refine ao ?_;refine ba [1, 2, 7, 8, 9, 10] (by simp only [ac, pZ, simprocAttr]; exact rfl) ?_;have dX := And.intro dX (And.intro @Int.toNat_natCast @wn);refine ab (dR fun K hK => ?_);(repeat refine eV ?_);have dK := And.intro @wn (Eq.symm hsucc);refine aa (hK _ (a7 [1, 2, 7, 8] ?_));clear hK K;refine dR fun K hK => ?_;(repeat refine eV ?_);have dK := @bu;refine aa (hK _ (a7 [1, 2, 7, 8] ?_));clear hK K;refine dR fun K hK => ?_;(repeat refine eV ?_);refine cL rfl ⟨rfl, _, rfl⟩ (by omega) (by first | exact Ma) (tn ⟨false, f.t1, f.o2, f.t2, false, f.t3, false, f.t4⟩ N true 3 nxt k hg hsl2 hk1 (by omega)) ?_;rintro _ rfl;(repeat refine eV ?_);have dK := And.intro @bu @hnxt;refine aa (hK _ ?_);clear hK K;show ∃ x, _ ∧ _ ∧ Weak _ _;refine ⟨s + 1, ?_, ?_, ay [1, 2, 7, 8, 9]⟩
     ·omega
     ·omega
   ·cases hb
end
section
section
variable {N : Net} {k : Nat}
theorem Ay {f : Nat → Nat} : ∀ n, (∀ i, i < n → f i = 0) → sm f n = 0
 | 0, _ => rfl
 | n + 1, h => by rw [sm, Ay n fun i hi => h i (by omega), h n (by omega)]
theorem Nl (hp : plB N = true) (v : Nat) : adC N.ends v v = 0 := by
 unfold adC;refine Ay _ fun i hi => if_neg fun he => ?_
 have hv : v < N.ends.length := by
  refine Classical.byContradiction fun h1 => ?_;have := pi (ess := N.ends) h1;omega
 have h2 := nl.1 hp v hv;rw [iy.2 ⟨i, hi, he⟩] at h2;cases h2
theorem qx (hs : Sym N.ends) (col : List Int) {v : Nat} (hv : v < N.ends.length) (x : Int) : dz N col v x = smC (adC N.ends) (fun w => gi col w) N.ends.length v x := (At hs hv (fun w => gi col w) x).symm
def inS (N : Net) (k s : Nat) : Nat := upC (adC N.ends) (fun w => gi (dfs N k s) w) N.ends.length
theorem Fw {l : List Int} {i j : Nat} {x : Int} (hi : i < l.length) : gi (l.set i x) j = if j = i then x else gi l j := by
 unfold gi;rw [List.getD_eq_getElem?_getD, List.getD_eq_getElem?_getD, List.getElem?_set]
 by_cases h : j = i
 ·subst h; rw [if_pos rfl, if_pos rfl, if_pos hi]; rfl
 ·rw [if_neg (fun h2 => h h2.symm), if_neg h]
theorem Mj (hs : Sym N.ends) (hp : plB N = true) (hk : 0 < k) {s : Nat} (hc : crw N k (dfs N k s) ≠ -1) : inS N k (s + 1) + 1 ≤ inS N k s := by
 obtain ⟨v, hv, hvl, hb⟩ := Gc hc;have hl := fm N k s;have hvn : v < N.ends.length := by omega
 have hsucc : dfs N k (s + 1) = (dfs N k s).set v (er N (dfs N k s) v k : Nat) := by
  show (dfs N k s).set (crw N k (dfs N k s)).toNat _ = _;rw [hv, Int.toNat_natCast]
 unfold inS;refine Ks (Ps hs) (Nl hp) hvn (fun w hw => ?_) ?_
 ·show gi (dfs N k (s + 1)) w = gi (dfs N k s) w;rw [hsucc, Fw hvl, if_neg hw]
 ·show smC _ _ _ v (gi (dfs N k (s + 1)) v) < smC _ _ _ v (gi (dfs N k s) v);rw [hsucc, Fw hvl, if_pos rfl, ← qx hs (dfs N k s) hvn, ← qx hs (dfs N k s) hvn]
  have h1 := K8 (a := adC N.ends) (l := fun w => gi (dfs N k s) w) (n := N.ends.length) (u := v) (k := k) (c := (er N (dfs N k s) v k : Nat)) hk fun x hx => by
   rw [← qx hs (dfs N k s) hvn, ← qx hs (dfs N k s) hvn];exact Dy hx
  rw [← qx hs (dfs N k s) hvn, Pt hs hvn] at h1;have h2 := of_decide_eq_true hb;have h3 : dg N.ends v = (gl N.ends v).length := rfl;rw [h3] at h1;omega
theorem Do (hs : Sym N.ends) (hp : plB N = true) : inS N k 0 = (edL N N.ends.length).length := by
 have hl : ∀ a i, a < N.ends.length → i < (gl N.ends a).length → (gp (gl N.ends a) i).1 ≠ a := fun a i ha hi he => by
  have h2 := nl.1 hp a ha;rw [iy.2 ⟨i, hi, he⟩] at h2; cases h2
 rw [Rr hs hl];unfold inS;refine Gz fun v w hv hw => ?_;show gi (List.replicate N.ends.length 0) v = gi (List.replicate N.ends.length 0) w;unfold gi;simp [hv, hw]
theorem Bq (hs : Sym N.ends) (hp : plB N = true) (hk : 0 < k) : ∀ S, (∀ s, s < S → crw N k (dfs N k s) ≠ -1) → inS N k S + S ≤ inS N k 0
 | 0, _ => Nat.le_refl _
 | S + 1, h => by
  have h1 := Bq hs hp hk S fun s hs2 => h s (by omega);have h2 := Mj hs hp hk (h S (by omega));omega
theorem Mz (hs : Sym N.ends) (hp : plB N = true) (hk : 0 < k) : ∃ S, crw N k (dfs N k S) = -1 ∧ (∀ s, s < S → crw N k (dfs N k s) ≠ -1) ∧ inS N k S + S ≤ (edL N N.ends.length).length := by
 have key : ∀ n, (∃ S, S ≤ n ∧ crw N k (dfs N k S) = -1 ∧ ∀ s, s < S → crw N k (dfs N k s) ≠ -1) ∨ ∀ s, s ≤ n → crw N k (dfs N k s) ≠ -1 := by
  intro n
  induction n with
  | zero =>
   by_cases h : crw N k (dfs N k 0) = -1
   ·exact .inl ⟨0, Nat.le_refl _, h, fun s hs => absurd hs (Nat.not_lt_zero _)⟩
   ·refine .inr fun s hs => ?_;obtain rfl : s = 0 := by omega
    exact h
  | succ n ih =>
   rcases ih with ⟨S, h1, h2⟩ | h1
   ·exact .inl ⟨S, by omega, h2⟩
   ·by_cases h : crw N k (dfs N k (n + 1)) = -1
    ·exact .inl ⟨n + 1, Nat.le_refl _, h, fun s hs => h1 s (by omega)⟩
    ·refine .inr fun s hs => ?_
     by_cases hs2 : s = n + 1
     ·exact hs2 ▸ h
     ·exact h1 s (by omega)
 rcases key ((edL N N.ends.length).length + 1) with ⟨S, h1, h2, h3⟩ | h
 ·exact ⟨S, h2, h3, by have := Bq hs hp hk S h3; rw [Do hs hp] at this; exact this⟩
 ·have := Bq hs hp hk ((edL N N.ends.length).length + 1) fun s hs2 => h s (by omega);rw [Do hs hp] at this;omega
theorem B6 (hk : 0 < k) : ∀ s v, v < N.ends.length → 0 ≤ gi (dfs N k s) v ∧ gi (dfs N k s) v < k
 | 0, v, hv => by
  have : gi (dfs N k 0) v = 0 := by
   show gi (List.replicate N.ends.length 0) v = 0;unfold gi; simp [hv]
  omega
 | s + 1, v, hv => by
  have ih := B6 hk s;have hl := fm N k s;have hf := Bu N (dfs N k s) (crw N k (dfs N k s)).toNat k;show 0 ≤ gi ((dfs N k s).set _ _) v ∧ gi ((dfs N k s).set _ _) v < k
  by_cases h : (crw N k (dfs N k s)).toNat < (dfs N k s).length
  ·rw [Fw h];split
   ·omega
   ·exact ih v hv
  ·rw [List.set_eq_of_length_le (by omega)]; exact ih v hv
theorem Pj {S : Nat} {d : Int} (h : crw N k (dfs N k S) = -1) (hd : ∀ v, v < N.ends.length → (((gl N.ends v).length / k : Nat) : Int) ≤ d) : sw N (dfs N k S) d = true := by
 refine vj fun v hv => ?_;have hl := fm N k S
 have h1 : crB N k (dfs N k S) v = false := by
  cases hc : crB N k (dfs N k S) v with
  | false => rfl
  | true =>
   exfalso;unfold crw n6 at h
   cases hf : (List.range (dfs N k S).length).find? (crB N k (dfs N k S)) with
   | none =>
    have := List.find?_eq_none.1 hf v (List.mem_range.2 hv);exact this hc
   | some i => rw [hf] at h; have h2 : (i : Int) = -1 := h; omega
 have h2 := of_decide_eq_false h1;have h3 := hd v (by omega);omega
end
end
section
set_option maxHeartbeats 0
set_option maxRecDepth 8000
open Go Go.RowKit
def G5 (N : Net) (col : List Int) : Bool := ta (edL N N.ends.length).length fun j => gi col (gq (edL N N.ends.length) j).1.toNat == gi col (gq (edL N N.ends.length) j).2.2.1.toNat
theorem G3 {f : Nat → Nat} {i : Nat} : ∀ n, i < n → f i ≤ sm f n
 | n + 1, h => by
  rw [sm]
  by_cases h2 : i = n
  ·subst h2; omega
  ·have := G3 n (f := f) (i := i) (by omega); omega
theorem vz {N : Net} {col : List Int} (hs : Sym N.ends) : G5 N col = true ↔ ∃ v i, v < N.ends.length ∧ i < (gl N.ends v).length ∧ gi col (gp (gl N.ends v) i).1.toNat = gi col v := by
 unfold G5;rw [ye];constructor
 ·rintro ⟨q, hq, hqe⟩;obtain ⟨k, i, hk, hi, -, he⟩ := qv (List.getElem_mem hq);rw [← qu hq] at he;rw [he, beq_iff_eq, Int.toNat_natCast] at hqe;exact ⟨k, i, hk, hi, hqe.symm⟩
 ·rintro ⟨v, i, hv, hi, he⟩;obtain ⟨e, hee, h6⟩ := Hx hs hv hi;obtain ⟨q, hq, rfl⟩ := List.mem_iff_getElem.1 hee;refine ⟨q, hq, ?_⟩;rw [qu hq, beq_iff_eq]
  rcases h6 with ⟨h7, h8⟩ | ⟨h7, h8⟩
  ·rw [h7, h8, he, Int.toNat_natCast]
  ·rw [h7, h8, he, Int.toNat_natCast]
theorem M1 {N : Net} {col : List Int} (hs : Sym N.ends) (hcn : col.length = N.ends.length) : sw N col 0 = !G5 N col := by
 cases h : G5 N col with
 | true =>
  obtain ⟨v, i, hv, hi, he⟩ := (vz hs).1 h;refine Gb (v := v) (by omega) ?_;have h1 := G3 (f := fun i => if gi col (gp (gl N.ends v) i).1.toNat = gi col v then 1 else 0) _ hi;rw [if_pos he] at h1;have h2 : dz N col v (gi col v) = sm (fun i => if gi col (gp (gl N.ends v) i).1.toNat = gi col v then 1 else 0) (gl N.ends v).length := rfl;rw [h2];omega
 | false =>
  refine vj fun v hv => ?_
  have h2 : dz N col v (gi col v) = 0 := Ay _ fun i hi => if_neg fun he => by
   have := (vz hs).2 ⟨v, i, by omega, hi, he⟩;rw [h] at this; cases this
  rw [h2]; exact Int.le_refl _
def zBDfl1 := PLift.up (And.intro aq (And.intro bp (And.intro cr (And.intro b6 (And.intro bl (And.intro @if_pos.{1} (And.intro @cl (And.intro bt (And.intro @di (And.intro @dq (And.intro @bw (And.intro @ca (And.intro @ck (And.intro ff (And.intro fg @trivial)))))))))))))))
theorem F6 : type_of% zBDfl1.down := zBDfl1.down
theorem uq (f : NF) (N : Net) (o : Bool) (t : TypeId) (col : List Int) (hcl : col.length ≤ 1000000) (h : ((col.length : Int) == (N.ends.length : Int)) = false ∨ ((col.length : Int) == (N.ends.length : Int)) = true ∧ col.all (fun n => inB n 0 1000000000000) = false) : DCalls Tryz.prog 129 [.agg (bj f N), .c (.sl o t 1 (col.map iC))] (fun r => r = [.c (.p (.bool false))]) := by
 refine am Tryz.func129 rfl (by rw [Tryz.ntmps129]; simp) fun w0 => ?_;rw [Tryz.ntmps129];have dX := F6;simp only [bq, bb, Arg.av, bj, bv, ints, ends];refine ab (dR fun K hK => ?_);(repeat refine eV ?_);refine aa (hK _ (wK [2, 3] ?_));clear hK K
 rcases h with he | ⟨he, hc⟩
 ·refine ab (dR fun K hK => ?_)
  repeat (apply cm; (focus exact rfl); (focus (simp (disch := first | omega | (intros; contradiction)) only [ac, bh, pZ, simprocAttr, aq, bp, cr, b6, bl, if_pos, cl, bt, di, dq, bw, ca, ck, ff, fg , he, ki, ge, gw]; exact rfl)))
  have dX := And.intro dX (@he);refine csF ?_;(repeat refine eV ?_);have dX := And.intro dX (@he);(repeat refine eV ?_);have dX := And.intro dX (@he);refine csF ?_;(repeat refine eV ?_);have dX := And.intro dX (@he);(repeat refine eV ?_);have dX := And.intro dX (@he);refine csF ?_;(repeat refine eV ?_);have dX := And.intro dX (@he);(repeat refine eV ?_);have dK := @he;refine aa (hK _ (a7 [4] ?_));clear hK K;exact aj (al Tryz.results129 (.one (.plain _ _ rfl)) (by decide) rfl)
 ·refine ab (dR fun K hK => ?_)
  repeat (apply cm; (focus exact rfl); (focus (simp (disch := first | omega | (intros; contradiction)) only [ac, bh, pZ, simprocAttr, aq, bp, cr, b6, bl, if_pos, cl, bt, di, dq, bw, ca, ck, ff, fg , he, ki, ge, gw]; exact rfl)))
  refine cgF rfl rfl ⟨rfl, _, rfl⟩ (by omega) (by first | exact ki | exact ge | exact gw) (my false t col 0 1000000000000 (by omega)) ?_;rintro _ rfl
  repeat (apply cm; (focus exact rfl); (focus (simp (disch := first | omega | (intros; contradiction)) only [ac, bh, pZ, simprocAttr, aq, bp, cr, b6, bl, if_pos, cl, bt, di, dq, bw, ca, ck, ff, fg , he, ki, ge, gw]; exact rfl)))
  have dX := And.intro dX (And.intro @he @hc);(repeat refine eV ?_);have dX := And.intro dX (And.intro @he @hc);refine csF ?_;(repeat refine eV ?_);have dX := And.intro dX (And.intro @he @hc);(repeat refine eV ?_);have dX := And.intro dX (And.intro @he @hc);refine csF ?_;(repeat refine eV ?_);have dX := And.intro dX (And.intro @he @hc);(repeat refine eV ?_);have dK := And.intro @he @hc;refine aa (hK _ (a7 [4] ?_));clear hK K;exact aj (al Tryz.results129 (.one (.plain _ _ rfl)) (by decide) rfl)
theorem tb (f : NF) (N : Net) (o : Bool) (t : TypeId) (col : List Int) (hi : N.ids.length ≤ 1000000) (hg : bn N = false) : DCalls Tryz.prog 42 [.agg (bj f N), .c (.sl o t 1 (col.map iC))] (fun r => r = [.c (.p (.bool false)), .c (.p (.bool false))]) := by
 refine am Tryz.func42 rfl (by rw [Tryz.ntmps42]; simp) fun w0 => ?_;rw [Tryz.ntmps42];have dX := F6;simp only [bq, bb, Arg.av, bj, bv, ints, ends];refine ab (dR fun K hK => ?_);(repeat refine eV ?_);refine aa (hK _ (wK [1, 2] ?_));clear hK K;refine ab ?_;refine ab (dR fun K hK => ?_);(repeat refine eV ?_);refine cL rfl ⟨rfl, _, rfl⟩ (by omega) (by first | exact jc) (d7 ⟨false, f.t1, f.o2, f.t2, false, f.t3, false, f.t4⟩ N (by omega)) ?_;rintro _ rfl;(repeat refine eV ?_);have dX := And.intro dX (@hg);(repeat refine eV ?_);have dK := @hg;refine aa (hK _ (a7 [1, 2, 8] ?_));clear hK K;refine dI ?_ ?_<;>intro hb
 ·refine ab (dR fun K hK => ?_);(repeat refine eV ?_);refine aa (hK _ (wK [4, 5] ?_));clear hK K;exact aj (al Tryz.results42 (.two (.plain _ _ rfl) (.plain _ _ rfl)) (by decide) rfl)
 ·cases hb
theorem lx (f : NF) (N : Net) (o : Bool) (t : TypeId) (col : List Int) (hg : bn N = true) (hcl : col.length ≤ 1000000) (h : ((col.length : Int) == (N.ends.length : Int)) = false ∨ ((col.length : Int) == (N.ends.length : Int)) = true ∧ col.all (fun n => inB n 0 1000000000000) = false) : DCalls Tryz.prog 42 [.agg (bj f N), .c (.sl o t 1 (col.map iC))] (fun r => r = [.c (.p (.bool false)), .c (.p (.bool true))]) := by
 obtain ⟨hs, hn, hids, hdg⟩ := b0 hg;refine am Tryz.func42 rfl (by rw [Tryz.ntmps42]; simp) fun w0 => ?_;rw [Tryz.ntmps42];have dX := F6;simp only [bq, bb, Arg.av, bj, bv, ints, ends];refine ab (dR fun K hK => ?_);(repeat refine eV ?_);refine aa (hK _ (wK [1, 2] ?_));clear hK K;refine ab ?_;refine ab (dR fun K hK => ?_);(repeat refine eV ?_);refine cL rfl ⟨rfl, _, rfl⟩ (by omega) (by first | exact jc) (d7 ⟨false, f.t1, f.o2, f.t2, false, f.t3, false, f.t4⟩ N hids) ?_;rintro _ rfl;(repeat refine eV ?_);have dX := And.intro dX (@hg);(repeat refine eV ?_);have dK := @hg;refine aa (hK _ (a7 [1, 2, 8] ?_));clear hK K;refine dI ?_ ?_<;>intro hb
 ·cases hb
 ·refine af ?_;show DW _ _ _ _ _;refine ab (dR fun K hK => ?_);(repeat refine eV ?_);refine cL rfl ⟨rfl, _, rfl⟩ (by omega) (by first | exact L6) (uq ⟨false, f.t1, f.o2, f.t2, false, f.t3, false, f.t4⟩ N o t col hcl h) ?_;rintro _ rfl;(repeat refine eV ?_);refine aa (hK _ (wK [4, 5] ?_));clear hK K;exact aj (al Tryz.results42 (.two (.plain _ _ rfl) (.plain _ _ rfl)) (by decide) rfl)
theorem tc (N : Net) (o : Bool) (t : TypeId) (col : List Int) (hi : N.ids.length ≤ 1000000) (hcl : col.length ≤ 1000000) : ∃ p q : Bool, DCalls Tryz.prog 42 [.agg (bj NFz N), .c (.sl o t 1 (col.map iC))] (fun r => r = [.c (.p (.bool p)), .c (.p (.bool q))]) ∧ (eh N col = true → p = sw N col 0) := by
 by_cases hg : bn N = true
 ·have hs := (b0 hg).1
  by_cases hl : col.length = N.ends.length
  ·have he : ((col.length : Int) == (N.ends.length : Int)) = true := by rw [hl]; exact beq_self_eq_true _
   cases hc : col.all (fun n => inB n 0 1000000000000) with
   | true => exact ⟨_, true, yk NFz N o t col hg hl hc, fun _ => (M1 hs hl).symm⟩
   | false =>
    refine ⟨false, true, lx NFz N o t col hg hcl (.inr ⟨he, hc⟩), fun h => ?_⟩;have h2 : col.all (fun n => inB n 0 1000000000000) = true := (jk h).2.2;rw [hc] at h2; cases h2
  ·refine ⟨false, true, lx NFz N o t col hg hcl (.inl ?_), fun h => absurd (jk h).2.1 hl⟩;rw [beq_eq_false_iff_ne]; omega
 ·exact ⟨false, false, tb NFz N o t col hi (by simpa using hg), fun h => absurd (jk h).1 hg⟩
end
section
def qL (e : Int × Int × Int × Int) : List Int := [e.1, e.2.1, e.2.2.1, e.2.2.2]
theorem xt (N : Net) (v : Nat) : ∀ m, ms N v m = (edN N v m).map qL
 | 0 => rfl
 | m + 1 => by
  rw [ub, xt N v m, edN, D3]
  have : By N v m = edP N v m := by
   unfold By edP;rw [Bool.eq_iff_iff];simp
  rw [this];split
  ·simp [qL]
  ·simp
theorem xr (N : Net) : ∀ m, sn N m = (edL N m).map qL
 | 0 => rfl
 | m + 1 => by rw [xq, xr N m, xt, edL, List.map_append]
end
section
set_option maxHeartbeats 0
set_option maxRecDepth 8000
open Go Go.RowKit
def zBDf51 := PLift.up (And.intro aq (And.intro b6 (And.intro bp (And.intro cr (And.intro @cl (And.intro @if_pos.{1} (And.intro @netO.eq_1 (And.intro @netZ.eq_1 (And.intro @bw @trivial)))))))))
theorem F8 : type_of% zBDf51.down := zBDf51.down
theorem yl (n : Nat) (h1 : 1 ≤ n) (h2 : n ≤ 40) : DCalls Tryz.prog 102 [.c (.p (.int .i64 n))] (fun r => r = [.own true (netO (kv n n)), .c (.p (.bool true))]) := by
 have hin : inB (n : Int) 1 40 = true := db.2 (by omega);refine am Tryz.func102 rfl (by rw [Tryz.ntmps102]; simp) fun w0 => ?_;rw [Tryz.ntmps102];have dX := F8;simp only [bq, bb, Arg.av, bj, bv, ints, ends];refine ab (dR fun K hK => ?_);(repeat refine eV ?_);refine aa (hK _ (wK [0, 2] ?_));clear hK K;refine ab ?_;refine ab (dR fun K hK => ?_);(repeat refine eV ?_);refine cL rfl ⟨rfl, _, rfl⟩ (by omega) (by first | exact w6) (Fp n 1 40) ?_;rintro _ rfl;(repeat refine eV ?_);have dK := @hin;refine aa (hK _ (a7 [0, 2, 6] ?_));clear hK K;refine dI ?_ ?_<;>intro hb
 ·cases hb
 ·refine af ?_;show DW _ _ _ _ _;refine ab (dR fun K hK => ?_);(repeat refine eV ?_);refine cL rfl ⟨rfl, _, rfl⟩ (by omega) (by first | exact Rd) (Jt n (by omega) (by omega)) ?_;rintro _ rfl;(repeat refine eV ?_);have dK := @netO.eq_1;refine aa (hK _ (a7 [2, 3] ?_));clear hK K;exact aj (al Tryz.results102 (.two (.cell 2 _ _ _ _ rfl rfl aq rfl rfl (ap _)) (.plain _ _ rfl)) (by decide) rfl)
def uj (l ps : List Int) (k : Nat) : List Int := (ps.take k).map fun a => gi l a.toNat
theorem Kx {l ps : List Int} {k a : Nat} (hk : k < ps.length) (ha : gi ps k = a) : uj l ps (k + 1) = uj l ps k ++ [gi l a] := by
 unfold uj;rw [G0 hk, List.map_append, ha];rfl
theorem Od {l ps : List Int} {k : Nat} (h : k ≤ ps.length) : (uj l ps k).length = k := by simp [uj]; omega
theorem D7 (o : Bool) (t : TypeId) (l : List Int) (o2 : Bool) (t2 : TypeId) (ps : List Int) (hp : ∀ k, k < ps.length → ∃ a : Nat, gi ps k = a ∧ a < l.length) (hn : ps.length ≤ 262144) : DCalls Tryz.prog 176 [.c (.sl o t 1 (l.map iC)), .c (.sl o2 t2 1 (ps.map iC))] (fun r => r = [.own false [.sl true 3 1 ((uj l ps ps.length).map iC)]]) := by
 refine am Tryz.func176 rfl (by rw [Tryz.ntmps176]; simp) fun w0 => ?_;rw [Tryz.ntmps176];have dX := F8;simp only [bq, bb, Arg.av, bj, bv, ints, ends];refine ab (dR fun K hK => ?_);(repeat refine eV ?_);refine aa (hK _ (wK [0, 1] ?_));clear hK K;refine ab (dR fun K hK => ?_);(repeat refine eV ?_);refine aa (hK _ (wK [0, 1, 5] ?_));clear hK K;refine ab ?_;refine ab (dR fun K hK => ?_);(repeat refine eV ?_);refine aa (hK _ (wK [0, 5, 8, 9, 10] ?_));clear hK K;refine ah ?_;refine fu 5 3 1 (by decide) (by simp only [ac, pZ, simprocAttr]) [0, 5, 8, 9, 10] (by simp only [ac, pZ, simprocAttr]; exact rfl) ?_;refine ax (X := Nat) (fun k => k ≤ ps.length) (fun k => [(10, .c (.p (.int .i64 k)))]) (fun k => [((5, 0), ⟨none, [.sl true 3 1 ((uj l ps k).map iC)]⟩)]) (fun k => ps.length - k) 0 (Nat.zero_le _) (by first | rfl | (simp only [ac, pZ, simprocAttr, Int.natCast_zero] <;> rfl)) ?_;rintro k hk;intro E hE;simp only [ac, pZ, simprocAttr] at hE;subst hE;have htl := Od (l := l) hk;refine ab (dR fun K hK => ?_);(repeat refine eV ?_);refine aa (hK _ (wK [0, 5, 8, 9, 10, 11] ?_));clear hK K;refine ab (dI (fun hb => ?_) (fun hb => ?_))
 ·have hk1 : k < ps.length := by simpa using hb
  obtain ⟨a, ha, hal⟩ := hp k hk1;have hts := Kx (l := l) hk1 ha;refine af ?_;show DW _ _ _ _ _;refine ab (ah ?_);refine ab (dR fun K hK => ?_);(repeat refine eV ?_);have dK := @ha;refine aa (hK _ (a7 [0, 5, 7, 8, 9, 10] ?_));clear hK K;refine dR fun K hK => ?_;(repeat refine eV ?_);have dK := @gd;refine aa (hK _ (a7 [0, 5, 8, 9, 10] ?_));clear hK K;refine dR fun K hK => ?_;(repeat refine eV ?_);have dK := And.intro @bu @hts;refine aa (hK _ ?_);clear hK K;show ∃ x, _ ∧ _ ∧ Weak _ _;refine ⟨k + 1, ?_, ?_, ay [0, 5, 8, 9, 10]⟩
  ·omega
  ·omega
 ·have hk2 : k = ps.length := by
   have : ¬ k < ps.length := by simpa using hb
   omega
  refine ao ?_;refine ba [5] (by simp only [ac, pZ, simprocAttr]; exact rfl) ?_;refine ab (dR fun K hK => ?_);(repeat refine eV ?_);refine aa (hK _ (wK [4] ?_));clear hK K;exact aj (al Tryz.results176 (.one (.own _ _ _ _ rfl rfl (own1 (bo _ _)))) (by decide) (by rw [hk2]))
theorem Id (bs : List Int) (p : Nat) (s : Int) (B : Nat) (hby : ch bs) (hp : p ≤ B) (hB : B + 600000000000000000 ≤ 4611686018427387900) : cg Tryz.prog 116 [.io 70 (curC bs p s)] (CurO bs (B + 600000000000000000) fun rs => ∃ N, rs = [.agg (netZ N)] ∧ Tame N) := by
 refine d8 Tryz.func116 rfl (by rw [Tryz.ntmps116]; simp) fun w0 => ?_;rw [Tryz.ntmps116];have dX := F8;simp only [gf, bb, Arg.av, curC];refine ab (dR fun K hK => ?_);(repeat refine eV ?_);refine aa (hK _ (wK [0, 2, 27] ?_));clear hK K;refine ab ?_;refine ab (dR fun K hK => ?_);(repeat refine eV ?_);refine gv rfl ⟨rfl, _, rfl⟩ (by omega) (by first | exact dt) (df bs p s 6 B hby hp (by omega)) ?_;rintro _ ⟨p1, s1, _, rfl, hp1, x1, rfl, hx1⟩;refine ioF ?_;(repeat refine eV ?_);refine aa (hK _ (wK [0, 2, 6, 27] ?_));clear hK K;refine ah ?_;refine ab (dR fun K hK => ?_);(repeat refine eV ?_);refine aa (hK _ (wK [0, 2, 6, 7, 27] ?_));clear hK K;refine dI ?_ ?_<;>intro hb
 ·refine ab (dR fun K hK => ?_);(repeat refine eV ?_);refine j4 rfl ⟨rfl, _, rfl⟩ (by omega) (by first | exact Qc) (Ej bs p1 s1 7 _ (B + 2) rfl hby hp1 (by omega) (by omega) (by omega)) ?_;rintro _ ⟨p2, s2, _, rfl, hp2, N2, rfl, ht2⟩;refine ioF ?_;(repeat refine eV ?_);have dK := @netO.eq_1;refine aa (hK _ (a7 [2, 27] ?_));clear hK K;refine ph 2 [2, 27] (by simp only [ac, pZ, simprocAttr]; exact rfl) ?_;exact aj (au Tryz.results116 Tryz.ntmps116 (.one (.cell 2 _ _ _ _ rfl rfl aq rfl rfl rfl)) (by decide) (by decide) rfl rfl rfl ⟨p2, s2, _, rfl, by omega, N2, rfl, ht2⟩)
 ·refine ab (dR fun K hK => ?_);(repeat refine eV ?_);refine aa (hK _ (wK [0, 2, 6, 11, 27] ?_));clear hK K;refine dI ?_ ?_<;>intro hb
  ·refine ab (dR fun K hK => ?_);(repeat refine eV ?_);refine j4 rfl ⟨rfl, _, rfl⟩ (by omega) (by first | exact Bm) (Ax bs p1 s1 9 _ (B + 2) rfl hby hp1 (by omega) (by omega) (by omega)) ?_;rintro _ ⟨p3, s3, _, rfl, hp3, N3, rfl, ht3⟩;refine ioF ?_;(repeat refine eV ?_);have dK := @netO.eq_1;refine aa (hK _ (a7 [2, 27] ?_));clear hK K;refine ph 2 [2, 27] (by simp only [ac, pZ, simprocAttr]; exact rfl) ?_;exact aj (au Tryz.results116 Tryz.ntmps116 (.one (.cell 2 _ _ _ _ rfl rfl aq rfl rfl rfl)) (by decide) (by decide) rfl rfl rfl ⟨p3, s3, _, rfl, by omega, N3, rfl, ht3.tame (by omega) (by omega)⟩)
  ·refine ab (dR fun K hK => ?_);(repeat refine eV ?_);refine aa (hK _ (wK [0, 2, 15, 27] ?_));clear hK K;refine dI ?_ ?_<;>intro hb
   ·refine ab (dR fun K hK => ?_);(repeat refine eV ?_);refine gv rfl ⟨rfl, _, rfl⟩ (by omega) (by first | exact dt | exact Md) (df bs p1 s1 7 _ hby hp1 (by omega)) ?_;rintro _ ⟨p4, s4, _, rfl, hp4, x4, rfl, hx4⟩;refine ioF ?_;(repeat refine eV ?_);obtain ⟨k, rfl⟩ := Int.eq_ofNat_of_zero_le hx4.1;have hk : (2 + (k : Int)) = ((2 + k : Nat) : Int) := by omega
    have hk6 : k ≤ 6 := by have := hx4.2.2; omega
    have dX := And.intro dX (@hk);(repeat refine eV ?_);refine cL rfl ⟨rfl, _, rfl⟩ (by omega) (by first | exact dt | exact Md) (yl (2 + k) (by omega) (by omega)) ?_;rintro _ rfl;(repeat refine eV ?_);have dK := @netO.eq_1;refine aa (hK _ (a7 [2, 3, 27] ?_));clear hK K;refine ph 3 [2, 3, 27] (by simp only [ac, pZ, simprocAttr]; exact rfl) ?_;refine ab (dR fun K hK => ?_);(repeat refine eV ?_);refine aa (hK _ (wK [2, 27] ?_));clear hK K;exact aj (au Tryz.results116 Tryz.ntmps116 (.one (.cell 2 _ _ _ _ rfl rfl aq rfl rfl rfl)) (by decide) (by decide) rfl rfl rfl ⟨p4, s4, _, rfl, by omega, kv (2 + k) (2 + k), rfl, Ky (by omega)⟩)
   ·refine af ?_;show DW _ _ _ _ _;refine ab (dR fun K hK => ?_);(repeat refine eV ?_);refine j4 rfl ⟨rfl, _, rfl⟩ (by omega) (by first | exact Bl) (px bs p1 s1 8 _ (B + 2) rfl hby hp1 (by omega) (by omega) (by omega)) ?_;rintro _ ⟨p5, s5, _, rfl, hp5, N5, rfl, ht5⟩;refine ioF ?_;(repeat refine eV ?_);have dK := @netO.eq_1;refine aa (hK _ (a7 [2, 27] ?_));clear hK K;refine ph 2 [2, 27] (by simp only [ac, pZ, simprocAttr]; exact rfl) ?_;exact aj (au Tryz.results116 Tryz.ntmps116 (.one (.cell 2 _ _ _ _ rfl rfl aq rfl rfl rfl)) (by decide) (by decide) rfl rfl rfl ⟨p5, s5, _, rfl, by omega, N5, rfl, ht5.tame (by omega) (by omega)⟩)
end
section
open Go Go.RowKit
def clColoursSt13 : Nat → Stat
 | 0 => ⟨[10], [], [], [39], [], []⟩
 | 1 => ⟨[39], [], [], [40], [], []⟩
 | 2 => ⟨[40], [], [], [41], [], []⟩
 | 3 => ⟨[7, 41], [], [], [42], [], []⟩
 | 4 => ⟨[9, 41], [], [], [43], [], []⟩
 | 5 => ⟨[42, 43, 41], [], [7, 9], [44], [], []⟩
 | 6 => ⟨[7, 41], [], [], [45], [], []⟩
 | 7 => ⟨[8, 41], [], [], [46], [], []⟩
 | 8 => ⟨[45, 46, 41], [(7, 1)], [], [47], [], []⟩
 | 9 => ⟨[47, 41], [(7, 2)], [], [48], [], []⟩
 | 10 => ⟨[44, 48, 41], [], [44], [49], [], []⟩
 | 11 => ⟨[41, 49], [], [], [50], [], []⟩
 | _ => ⟨[], [], [], [], [], []⟩
def zBDf61 := PLift.up (And.intro aq (And.intro b6 (And.intro bl (And.intro bp (And.intro cr (And.intro @if_pos.{1} (And.intro @cl (And.intro @netO.eq_1 (And.intro @netZ.eq_1 (And.intro @bw @trivial))))))))))
theorem R6 : type_of% zBDf61.down := zBDf61.down
set_option maxRecDepth 8000 in
set_option maxHeartbeats 0 in
theorem D8 (bs : List Int) (p : Nat) (s : Int) (f : NF) (N : Net) (most : Int) (B : Nat) (hby : ch bs) (hp : p ≤ B) (hB : B + 10000 ≤ 4611686018427387900) (ht : Tame N) : cg Tryz.prog 127 [.io 70 (curC bs p s), .agg (bj f N), .c (.p (.int .i64 most))] (CurO bs (B + 10000) fun rs => ∃ l : List Int, rs = [.own false [.sl true 3 1 (l.map iC)]] ∧ l.length = N.ends.length) := by
 have hlen := ht.len;refine d8 Tryz.func127 rfl (by rw [Tryz.ntmps127]; simp) fun w0 => ?_;rw [Tryz.ntmps127];have dX := R6;simp only [gf, bb, Arg.av, curC, bj, bv, ints, ends];refine ab (dR fun K hK => ?_);(repeat refine eV ?_);refine aa (hK _ (wK [0, 2, 4, 72] ?_));clear hK K;refine ab (dR fun K hK => ?_);(repeat refine eV ?_);refine aa (hK _ (wK [0, 2, 4, 7, 72] ?_));clear hK K;refine fu 7 3 1 (by decide) (by simp only [ac, pZ, simprocAttr]) [0, 2, 4, 7, 72] (by simp only [ac, pZ, simprocAttr]; exact rfl) ?_;refine ab ?_;refine ab (dR fun K hK => ?_);(repeat refine eV ?_);refine aa (hK _ (wK [0, 2, 4, 7, 13, 14, 72] ?_));clear hK K;refine ah ?_;refine ax (X := List Int × Nat × Int) (fun x => x.1.length ≤ N.ends.length ∧ x.2.1 ≤ B + 2 * x.1.length) (fun x => [(14, .c (.p (.int .i64 x.1.length)))]) (fun x => [((7, 0), ⟨none, [.sl true 3 1 (x.1.map iC)]⟩), ((72, 0), ⟨some 70, [.sl false 5 1 (bs.map bC), .p (.int .i64 x.2.1), .p (.int .u64 x.2.2)]⟩)]) (fun x => N.ends.length - x.1.length) ([], p, s) ⟨Nat.zero_le _, by simpa using hp⟩ (by first | rfl | (simp only [ac, pZ, simprocAttr, Int.natCast_zero, List.map_nil, List.length_nil] <;> rfl)) ?_;rintro ⟨l, p1, s1⟩ ⟨hll, hp1⟩;intro E hE;simp only [ac, pZ, simprocAttr] at hE;subst hE;dsimp only at hll hp1 ⊢;refine ab (dR fun K hK => ?_);(repeat refine eV ?_);refine aa (hK _ (wK [0, 2, 4, 7, 13, 14, 15, 72] ?_));clear hK K;refine ab (dI (fun hb => ?_) (fun hb => ?_))
 ·have hk1 : l.length < N.ends.length := by simpa using hb
  refine af ?_;show DW _ _ _ _ _;refine ab (ah ?_);refine dR fun K hK => ?_;(repeat refine eV ?_);refine gv rfl ⟨rfl, _, rfl⟩ (by omega) (by first | exact dt) (df bs p1 s1 most _ hby hp1 (by omega)) ?_;rintro _ ⟨p2, s2, _, rfl, hp2, x2, rfl, hx2⟩;refine ioF ?_;(repeat refine eV ?_);have dK := @gd;refine aa (hK _ (a7 [0, 2, 4, 7, 13, 14, 72] ?_));clear hK K;have hle : ((l ++ [x2]).length : Nat) = l.length + 1 := by simp
  refine dR fun K hK => ?_;(repeat refine eV ?_);have dK := And.intro @bu @hle;refine aa (hK _ ?_);clear hK K;show ∃ x, _ ∧ _ ∧ Weak _ _;refine ⟨(l ++ [x2], p2, s2), ?_, ?_, ay [0, 2, 4, 7, 13, 14, 72]⟩
  ·exact ⟨by dsimp only; omega, by dsimp only; omega⟩
  ·dsimp only; omega
 ·have hk2 : l.length = N.ends.length := by
   have : ¬ l.length < N.ends.length := by simpa using hb
   omega
  refine ao ?_;refine ba [0, 2, 4, 7, 72] (by simp only [ac, pZ, simprocAttr]; exact rfl) ?_;refine ab ?_;refine ab (dR fun K hK => ?_);(repeat refine eV ?_);refine cL rfl ⟨rfl, _, rfl⟩ (by omega) (by first | exact od | exact mi) (qk ⟨false, f.t1, f.o2, f.t2, false, f.t3, false, f.t4⟩ N) ?_;rintro _ rfl;(repeat refine eV ?_);obtain hg | hg := Bool.eq_false_or_eq_true (bn N)
  ·obtain ⟨hs, hn, hids, hdg⟩ := b0 hg;have dX := And.intro dX (@hg);(repeat refine eV ?_);have dX := And.intro dX (@hg);refine T2 rfl rfl ⟨rfl, _, rfl⟩ (by omega) (by first | exact od | exact mi) (ob bs p1 s1 8 _ hby hp1 (by omega)) ?_;rintro _ ⟨p2, s2, _, rfl, hp2, b2, rfl⟩;refine ioF ?_;(repeat refine eV ?_);have dX := And.intro dX (@hg);(repeat refine eV ?_);have dK := @hg;refine aa (hK _ (a7 [0, 2, 4, 7, 29, 72] ?_));clear hK K;refine dI ?_ ?_<;>intro hb
   ·refine ab (dR fun K hK => ?_);(repeat refine eV ?_);refine aa (hK _ (wK [6, 72] ?_));clear hK K;exact aj (au Tryz.results127 Tryz.ntmps127 (.one (.re _ _ (.own _ _ _ _ rfl rfl (own1 (bo _ _))))) (by decide) (by decide) rfl rfl rfl ⟨p2, s2, _, rfl, by omega, l, rfl, hk2⟩)
   ·refine af ?_;show DW _ _ _ _ _;refine ab ?_;refine ab (dR fun K hK => ?_);(repeat refine eV ?_);refine aa (hK _ (wK [0, 2, 4, 7, 32, 33, 72] ?_));clear hK K;refine ah ?_;refine ax (X := List Int × Nat × Nat × Int) (fun x => x.1.length = N.ends.length ∧ x.2.1 ≤ N.ends.length ∧ x.2.2.1 ≤ B + 200 + 45 * x.2.1) (fun x => [(33, .c (.p (.int .i64 x.2.1)))]) (fun x => [((7, 0), ⟨none, [.sl true 3 1 (x.1.map iC)]⟩), ((72, 0), ⟨some 70, [.sl false 5 1 (bs.map bC), .p (.int .i64 x.2.2.1), .p (.int .u64 x.2.2.2)]⟩)]) (fun x => N.ends.length - x.2.1) (l, 0, p2, s2) ⟨hk2, Nat.zero_le _, by dsimp only; omega⟩ (by first | rfl | (simp only [ac, pZ, simprocAttr, Int.natCast_zero] <;> rfl)) ?_;rintro ⟨l, v, p3, s3⟩ ⟨hll2, hvl, hp3⟩;intro E hE;simp only [ac, pZ, simprocAttr] at hE;subst hE;dsimp only at hll2 hvl hp3 ⊢;refine ab (dR fun K hK => ?_);(repeat refine eV ?_);refine aa (hK _ (wK [0, 2, 4, 7, 32, 33, 34, 72] ?_));clear hK K;refine ab (dI (fun hb => ?_) (fun hb => ?_))
    ·have hv1 : v < N.ends.length := by have := of_decide_eq_true hb; omega
     have hdv := hdg v;have hvl2 : v < l.length := by omega
     obtain ⟨nb, hnb⟩ : ∃ nb, nb = eu N v (gl N.ends v).length := ⟨_, rfl⟩;have hnl : nb.length = (gl N.ends v).length := by rw [hnb]; exact wx (Nat.le_refl _)
     have hnp : ∀ k, k < nb.length → ∃ a : Nat, gi nb k = a ∧ a < N.ends.length := fun k hk => by
      obtain ⟨b, j, he, hb1, -, -⟩ := hs v k hv1 (by show k < (gl N.ends v).length; omega);exact ⟨b, by rw [hnb, Dg rfl (by omega)]; exact congrArg Prod.fst he, hb1⟩
     refine af ?_;show DW _ _ _ _ _;refine ab (ah ?_);refine ab (dR fun K hK => ?_);(repeat refine eV ?_);refine aa (hK _ (wK [0, 2, 4, 7, 8, 32, 33, 72] ?_));clear hK K;refine ab (dR fun K hK => ?_);(repeat refine eV ?_);refine cL rfl ⟨rfl, _, rfl⟩ (by omega) (by first | exact zr) (qg ⟨false, f.t1, f.o2, f.t2, false, f.t3, false, f.t4⟩ N v hv1 (by omega)) ?_;rintro _ rfl;(repeat refine eV ?_);have dK := (Eq.symm hnb);refine aa (hK _ (a7 [0, 2, 4, 7, 8, 9, 32, 33, 72] ?_));clear hK K;refine ab (dR fun K hK => ?_);(repeat refine eV ?_);refine aa (hK _ (wK [0, 2, 4, 7, 8, 9, 10, 32, 33, 72] ?_));clear hK K;refine ah ?_;refine ax (X := List Int × Nat × Nat × Int) (fun x => x.1.length = N.ends.length ∧ x.2.1 ≤ 20 ∧ x.2.2.1 ≤ B + 200 + 45 * v + 2 * x.2.1) (fun x => [(10, .c (.p (.int .i64 x.2.1)))]) (fun x => [((7, 0), ⟨none, [.sl true 3 1 (x.1.map iC)]⟩), ((72, 0), ⟨some 70, [.sl false 5 1 (bs.map bC), .p (.int .i64 x.2.2.1), .p (.int .u64 x.2.2.2)]⟩)]) (fun x => 20 - x.2.1) (l, 0, p3, s3) ⟨hll2, Nat.zero_le _, by dsimp only; omega⟩ (by first | rfl | (simp only [ac, pZ, simprocAttr, Int.natCast_zero] <;> rfl)) ?_;rintro ⟨l, k, p4, s4⟩ ⟨hll3, hk20, hp4⟩;intro E hE;simp only [ac, pZ, simprocAttr] at hE;subst hE;dsimp only at hll3 hk20 hp4 ⊢;have hvl3 : v < l.length := by omega
     refine ab ?_;obtain h1 | h1 := Bool.eq_false_or_eq_true (decide ((k : Int) < 20))
     ·have hk21 : k < 20 := by have := of_decide_eq_true h1; omega
      have dX := And.intro dX (And.intro @clColoursSt13.eq_def (And.intro @h1 @Int.toNat_natCast));refine ab (em clColoursSt13 (fun j r => match j with | 5 => r = [.own false [.sl true 3 1 ((uj l nb nb.length).map iC)]] | 10 => r = [.c (.p (.bool (gu (uj l nb nb.length) (gi l v))))] | _ => True) fun K hK => ?_);(repeat refine dV ?_);have dX := And.intro dX (And.intro @clColoursSt13.eq_def (And.intro @h1 @Int.toNat_natCast));refine dgF rfl rfl ⟨rfl, _, rfl⟩ (by omega) (by first | exact L2 | exact zq) (D7 true 3 l true 3 nb (fun k hk => by obtain ⟨a, ha, hal⟩ := hnp k hk; exact ⟨a, ha, by omega⟩) (by omega)) ?_;rintro _ rfl;(repeat refine dV ?_);have dX := And.intro dX (And.intro @clColoursSt13.eq_def (And.intro @h1 @Int.toNat_natCast));refine dgF rfl rfl ⟨rfl, _, rfl⟩ (by omega) (by first | exact L2 | exact zq) (Bo true 3 (uj l nb nb.length) (gi l v)) ?_;rintro _ rfl;(repeat refine dV ?_);have dK := @h1;refine a6 (hK _ (a7 [0, 2, 4, 7, 8, 9, 10, 32, 33, 50, 72] ?_));clear hK K;refine dI ?_ ?_<;>intro hb
      ·refine af ?_;show DW _ _ _ _ _;refine ab (ah ?_);refine dR fun K hK => ?_;(repeat refine eV ?_);refine gv rfl ⟨rfl, _, rfl⟩ (by omega) (by first | exact dt) (df bs p4 s4 most _ hby hp4 (by omega)) ?_;rintro _ ⟨p5, s5, _, rfl, hp5, x5, rfl, hx5⟩;refine ioF ?_;(repeat refine eV ?_);have dK := @wn;refine aa (hK _ (a7 [0, 2, 4, 7, 8, 9, 10, 32, 33, 72] ?_));clear hK K;refine dR fun K hK => ?_;(repeat refine eV ?_);have dK := @bu;refine aa (hK _ ?_);clear hK K;show ∃ x, _ ∧ _ ∧ Weak _ _;refine ⟨(l.set v x5, k + 1, p5, s5), ?_, ?_, ay [0, 2, 4, 7, 8, 9, 10, 32, 33, 72]⟩
       ·exact ⟨by rw [List.length_set]; omega, by dsimp only; omega, by dsimp only; omega⟩
       ·dsimp only; omega
      ·refine ao ?_;refine ba [0, 2, 4, 7, 32, 33, 72] (by simp only [ac, pZ, simprocAttr]; exact rfl) ?_;refine dR fun K hK => ?_;(repeat refine eV ?_);have dK := @bu;refine aa (hK _ ?_);clear hK K;show ∃ x, _ ∧ _ ∧ Weak _ _;refine ⟨(l, v + 1, p4, s4), ?_, ?_, ay [0, 2, 4, 7, 32, 33, 72]⟩
       ·exact ⟨by dsimp only; omega, by dsimp only; omega, by dsimp only; omega⟩
       ·dsimp only; omega
     ·have dX := And.intro dX (And.intro @clColoursSt13.eq_def (And.intro @h1 @Int.toNat_natCast));refine ab (em clColoursSt13 (fun j r => match j with | 5 => r = [.own false [.sl true 3 1 ((uj l nb nb.length).map iC)]] | 10 => r = [.c (.p (.bool (gu (uj l nb nb.length) (gi l v))))] | _ => True) fun K hK => ?_);(repeat refine dV ?_);have dX := And.intro dX (And.intro @clColoursSt13.eq_def @h1);refine dsF ?_;(repeat refine dV ?_);have dX := And.intro dX (And.intro @clColoursSt13.eq_def @h1);refine dsF ?_;(repeat refine dV ?_);have dK := @h1;refine a6 (hK _ (a7 [0, 2, 4, 7, 8, 9, 10, 32, 33, 50, 72] ?_));clear hK K;refine dI ?_ ?_<;>intro hb
      ·cases hb
      ·refine ao ?_;refine ba [0, 2, 4, 7, 32, 33, 72] (by simp only [ac, pZ, simprocAttr]; exact rfl) ?_;refine dR fun K hK => ?_;(repeat refine eV ?_);have dK := @bu;refine aa (hK _ ?_);clear hK K;show ∃ x, _ ∧ _ ∧ Weak _ _;refine ⟨(l, v + 1, p4, s4), ?_, ?_, ay [0, 2, 4, 7, 32, 33, 72]⟩
       ·exact ⟨by dsimp only; omega, by dsimp only; omega, by dsimp only; omega⟩
       ·dsimp only; omega
    ·refine ao ?_;refine ba [0, 7, 72] (by simp only [ac, pZ, simprocAttr]; exact rfl) ?_;refine fl (X := List Int × Nat × Int) (fun z => z.1.length = N.ends.length ∧ z.2.1 ≤ B + 9000) (fun z => mkE 72 [(7, .own false 1), (72, .dead)] [((7, 0), ⟨none, [.sl true 3 1 (z.1.map iC)]⟩), ((72, 0), ⟨some 70, [.sl false 5 1 (bs.map bC), .p (.int .i64 z.2.1), .p (.int .u64 z.2.2)]⟩)]) ?_ ?_
     ·refine ab (dR fun K hK => ?_);(repeat refine eV ?_);refine gv rfl ⟨rfl, _, rfl⟩ (by omega) (by first | exact mi) (ob bs p3 s3 16 _ hby hp3 (by omega)) ?_;rintro _ ⟨p4, s4, _, rfl, hp4, b4, rfl⟩;refine ioF ?_;(repeat refine eV ?_);refine aa (hK _ (wK [0, 7, 61, 72] ?_));clear hK K;refine dI ?_ ?_<;>intro hb
      ·refine dR fun K hK => ?_;(repeat refine eV ?_);refine gv rfl ⟨rfl, _, rfl⟩ (by omega) (by first | exact dt | exact oc) (df bs p4 s4 (l.length : Int) _ hby hp4 (by omega)) ?_;rintro _ ⟨p5, s5, _, rfl, hp5, x5, rfl, hx5⟩;refine ioF ?_;(repeat refine eV ?_);obtain ⟨x, rfl⟩ := Int.eq_ofNat_of_zero_le hx5.1;have hxl : x < l.length := by have := hx5.2.2; omega
       refine gv rfl ⟨rfl, _, rfl⟩ (by omega) (by first | exact dt | exact oc) (jw bs p5 s5 _ _ [-1, 1000000000000, 1000000000001] _ hby hp5 (by omega) (by simp) (by simp)) ?_;rintro _ ⟨p6, s6, _, rfl, hp6, x6, rfl, hx6⟩;refine ioF ?_;(repeat refine eV ?_);refine aa (hK _ ?_);clear hK K;show ∃ x, _ ∧ Weak _ _;refine ⟨(l.set x x6, p6, s6), ?_, (aw _ [7, 72]).trans (Weak.of_eq (by simp only [ac, pZ, simprocAttr , wn, Int.toNat_natCast] <;> exact rfl))⟩;exact ⟨by rw [List.length_set]; omega, by dsimp only; omega⟩
      ·refine af ?_;show ∃ x, _ ∧ Weak _ _;refine ⟨(l, p4, s4), ?_, (aw _ [7, 72]).trans (Weak.of_eq (by simp only [ac, pZ, simprocAttr] <;> exact rfl))⟩;exact ⟨by dsimp only; omega, by dsimp only; omega⟩
     ·rintro ⟨l, p7, s7⟩ ⟨hl7, hp7⟩;dsimp only at hl7 hp7 ⊢;refine ab (dR fun K hK => ?_);(repeat refine eV ?_);refine aa (hK _ (wK [6, 72] ?_));clear hK K;exact aj (au Tryz.results127 Tryz.ntmps127 (.one (.re _ _ (.own _ _ _ _ rfl rfl (own1 (bo _ _))))) (by decide) (by decide) rfl rfl rfl ⟨p7, s7, _, rfl, by omega, l, rfl, hl7⟩)
  ·have dX := And.intro dX (@hg);(repeat refine eV ?_);have dX := And.intro dX (@hg);refine csF ?_;(repeat refine eV ?_);have dX := And.intro dX (@hg);(repeat refine eV ?_);have dK := @hg;refine aa (hK _ (a7 [0, 2, 4, 7, 29, 72] ?_));clear hK K;refine dI ?_ ?_<;>intro hb
   ·refine ab (dR fun K hK => ?_);(repeat refine eV ?_);refine aa (hK _ (wK [6, 72] ?_));clear hK K;exact aj (au Tryz.results127 Tryz.ntmps127 (.one (.re _ _ (.own _ _ _ _ rfl rfl (own1 (bo _ _))))) (by decide) (by decide) rfl rfl rfl ⟨p1, s1, _, rfl, by omega, l, rfl, hk2⟩)
   ·cases hb
end
section
set_option maxHeartbeats 0
set_option maxRecDepth 8000
open Go Go.RowKit
def dgL (N : Net) (k : Nat) : List Int := (List.range k).map fun v => ((gl N.ends v).length : Int)
theorem Mw (N : Net) (k : Nat) : dgL N (k + 1) = dgL N k ++ [((gl N.ends k).length : Int)] := by simp [dgL, List.range_succ]
theorem H6 (N : Net) (k : Nat) : (dgL N k).length = k := by simp [dgL]
def zBDf71 := PLift.up (And.intro aq (And.intro b6 (And.intro bl (And.intro bp (And.intro P6 (And.intro cr (And.intro @cl (And.intro @if_pos.{1} (And.intro @bw (And.intro @di (And.intro @mo (And.intro ff (And.intro fg @trivial)))))))))))))
theorem F7 : type_of% zBDf71.down := zBDf71.down
theorem Jr (f : NF) (N : Net) (hn : N.ends.length ≤ 1000000) : DCalls Tryz.prog 125 [.agg (bj f N)] (fun r => r = [.own false [.sl true 3 1 ((dgL N N.ends.length).map iC)]]) := by
 refine am Tryz.func125 rfl (by rw [Tryz.ntmps125]; simp) fun w0 => ?_;rw [Tryz.ntmps125];have dX := F7;simp only [bq, bb, Arg.av, bj, bv, ints, ends];refine ab (dR fun K hK => ?_);(repeat refine eV ?_);refine aa (hK _ (wK [1] ?_));clear hK K;refine ab (dR fun K hK => ?_);(repeat refine eV ?_);refine aa (hK _ (wK [1, 3] ?_));clear hK K;refine ab ?_;refine ab (dR fun K hK => ?_);(repeat refine eV ?_);refine aa (hK _ (wK [3, 7, 8, 9] ?_));clear hK K;refine ah ?_;refine fu 3 3 1 (by decide) (by simp only [ac, pZ, simprocAttr]) [3, 7, 8, 9] (by simp only [ac, pZ, simprocAttr]; exact rfl) ?_;refine ax (X := Nat) (fun k => k ≤ N.ends.length) (fun k => [(9, .c (.p (.int .i64 k)))]) (fun k => [((3, 0), ⟨none, [.sl true 3 1 ((dgL N k).map iC)]⟩)]) (fun k => N.ends.length - k) 0 (Nat.zero_le _) (by first | rfl | (simp only [ac, pZ, simprocAttr, Int.natCast_zero] <;> rfl)) ?_;rintro k hk;intro E hE;simp only [ac, pZ, simprocAttr] at hE;subst hE;have hdl := H6 N k;have hds := Mw N k;refine ab (dR fun K hK => ?_);(repeat refine eV ?_);refine aa (hK _ (wK [3, 7, 8, 9, 10] ?_));clear hK K;refine ab (dI (fun hb => ?_) (fun hb => ?_))
 ·have hk1 : k < N.ends.length := by simpa using hb
  refine af ?_;show DW _ _ _ _ _;refine ab (ah ?_);refine ab (dR fun K hK => ?_);(repeat refine eV ?_);refine aa (hK _ (wK [3, 5, 7, 8, 9] ?_));clear hK K;refine dR fun K hK => ?_;(repeat refine eV ?_);have dK := @gd;refine aa (hK _ (a7 [3, 7, 8, 9] ?_));clear hK K;refine dR fun K hK => ?_;(repeat refine eV ?_);have dK := And.intro @bu @hds;refine aa (hK _ ?_);clear hK K;show ∃ x, _ ∧ _ ∧ Weak _ _;refine ⟨k + 1, ?_, ?_, ay [3, 7, 8, 9]⟩
  ·omega
  ·omega
 ·have hk2 : k = N.ends.length := by
   have : ¬ k < N.ends.length := by simpa using hb
   omega
  refine ao ?_;refine ba [3] (by simp only [ac, pZ, simprocAttr]; exact rfl) ?_;refine ab (dR fun K hK => ?_);(repeat refine eV ?_);refine aa (hK _ (wK [2] ?_));clear hK K;exact aj (al Tryz.results125 (.one (.own _ _ _ _ rfl rfl (own1 (bo _ _)))) (by decide) (by rw [hk2]))
theorem Em (f : NF) (N : Net) (hg : bn N = true) : DCalls Tryz.prog 36 [.agg (bj f N)] (fun r => r = [.own false [.sl true 3 1 ((dgL N N.ends.length).map iC)], .c (.p (.bool true))]) := by
 obtain ⟨hs, hn, hids, hdg⟩ := b0 hg;refine am Tryz.func36 rfl (by rw [Tryz.ntmps36]; simp) fun w0 => ?_;rw [Tryz.ntmps36];have dX := F7;simp only [bq, bb, Arg.av, bj, bv, ints, ends];refine ab (dR fun K hK => ?_);(repeat refine eV ?_);refine aa (hK _ (wK [1] ?_));clear hK K;refine ab ?_;refine ab (dR fun K hK => ?_);(repeat refine eV ?_);refine cL rfl ⟨rfl, _, rfl⟩ (by omega) (by first | exact jc) (d7 ⟨false, f.t1, f.o2, f.t2, false, f.t3, false, f.t4⟩ N (by omega)) ?_;rintro _ rfl;(repeat refine eV ?_);have dK := @hg;refine aa (hK _ (a7 [1, 6] ?_));clear hK K;refine dI ?_ ?_<;>intro hb
 ·cases hb
 ·refine af ?_;show DW _ _ _ _ _;refine ab (dR fun K hK => ?_);(repeat refine eV ?_);refine cL rfl ⟨rfl, _, rfl⟩ (by omega) (by first | exact Rg) (Jr ⟨false, f.t1, f.o2, f.t2, false, f.t3, false, f.t4⟩ N (by omega)) ?_;rintro _ rfl;(repeat refine eV ?_);refine aa (hK _ (wK [2, 3] ?_));clear hK K;exact aj (al Tryz.results36 (.two (.own _ _ _ _ rfl rfl (own1 (bo _ _))) (.plain _ _ rfl)) (by decide) rfl)
theorem so (N : Net) (hg : bn N = true) : (edL N N.ends.length).length ≤ 1000000 := by
 obtain ⟨hs, hn, hids, hdg⟩ := b0 hg;have h1 := Ad N N.ends.length (Nat.le_refl _) (fun v _ => by have := hdg v; omega);rw [xr, List.length_map] at h1;have h2 : N.ends.length * 1000 ≤ 1000 * 1000 := Nat.mul_le_mul_right 1000 (by omega);omega
def edT (N : Net) (k : Nat) : List (List Int) := ((edL N N.ends.length).take k).map qL
theorem Ms {N : Net} {k : Nat} (h : k < (edL N N.ends.length).length) : edT N (k + 1) = edT N k ++ [[(gq (edL N N.ends.length) k).1, (gq (edL N N.ends.length) k).2.1, (gq (edL N N.ends.length) k).2.2.1, (gq (edL N N.ends.length) k).2.2.2]] := by
 unfold edT;rw [List.take_add_one, List.getElem?_eq_getElem h, qu h, List.map_append];rfl
theorem Pa {N : Net} {k : Nat} (h : k ≤ (edL N N.ends.length).length) : (edT N k).length = k := by simp [edT]; omega
theorem Pb (N : Net) : edT N (edL N N.ends.length).length = (edL N N.ends.length).map qL := by simp [edT]
theorem J4 (f : NF) (N : Net) (hg : bn N = true) : DCalls Tryz.prog 37 [.agg (bj f N)] (fun r => r = [.own false [.sl true 25 1 (((edL N N.ends.length).map qL).map (lsC 3))], .c (.p (.bool true))]) := by
 obtain ⟨hs, hn, hids, hdg⟩ := b0 hg;have hel := so N hg;refine am Tryz.func37 rfl (by rw [Tryz.ntmps37]; simp) fun w0 => ?_;rw [Tryz.ntmps37];have dX := F7;simp only [bq, bb, Arg.av, bj, bv, ints, ends];refine ab (dR fun K hK => ?_);(repeat refine eV ?_);refine aa (hK _ (wK [1] ?_));clear hK K;refine ab ?_;refine ab (dR fun K hK => ?_);(repeat refine eV ?_);refine cL rfl ⟨rfl, _, rfl⟩ (by omega) (by first | exact jc) (d7 ⟨false, f.t1, f.o2, f.t2, false, f.t3, false, f.t4⟩ N (by omega)) ?_;rintro _ rfl;(repeat refine eV ?_);have dK := @hg;refine aa (hK _ (a7 [1, 9] ?_));clear hK K;refine dI ?_ ?_<;>intro hb
 ·cases hb
 ·refine af ?_;show DW _ _ _ _ _;refine ab (dR fun K hK => ?_);(repeat refine eV ?_);refine aa (hK _ (wK [1, 4] ?_));clear hK K;refine ab ?_;refine ab (dR fun K hK => ?_);(repeat refine eV ?_);refine cL rfl ⟨rfl, _, rfl⟩ (by omega) (by first | exact ge) (Bz ⟨false, f.t1, f.o2, f.t2, false, f.t3, false, f.t4⟩ N (by omega) (fun a => by have := hdg a; omega)) ?_;rintro _ rfl;(repeat refine eV ?_);refine aa (hK _ (wK [4, 11, 12, 13] ?_));clear hK K;refine ah ?_;refine Fz 11 [4, 11, 12, 13] rfl rfl (by simp only [ac, pZ, simprocAttr, Lf, G7, Bc, Bb, ru]; exact rfl) ?_;refine fu 4 25 1 (by decide) (by simp only [ac, pZ, simprocAttr]) [4, 11, 12, 13] (by simp only [ac, pZ, simprocAttr]; exact rfl) ?_;refine ax (X := Nat) (fun k => k ≤ (edL N N.ends.length).length) (fun k => [(13, .c (.p (.int .i64 k)))]) (fun k => [((4, 0), ⟨none, [.sl true 25 1 ((edT N k).map (lsC 3))]⟩)]) (fun k => (edL N N.ends.length).length - k) 0 (Nat.zero_le _) (by first | rfl | (simp only [ac, pZ, simprocAttr, Int.natCast_zero] <;> rfl)) ?_;rintro k hk;intro E hE;simp only [ac, pZ, simprocAttr] at hE;subst hE;have hdl := Pa hk;refine ab (dR fun K hK => ?_);(repeat refine eV ?_);refine aa (hK _ (wK [4, 11, 12, 13, 14] ?_));clear hK K;refine ab (dI (fun hb => ?_) (fun hb => ?_))
  ·have hk1 : k < (edL N N.ends.length).length := by simpa using hb
   have hds := Ms hk1;refine af ?_;show DW _ _ _ _ _;refine ab (ah ?_);refine ab (dR fun K hK => ?_);(repeat refine eV ?_);refine aa (hK _ (wK [4, 6, 11, 12, 13] ?_));clear hK K;refine dR fun K hK => ?_;(repeat refine eV ?_);have dK := @lc;refine aa (hK _ (a7 [4, 11, 12, 13] ?_));clear hK K;refine dR fun K hK => ?_;(repeat refine eV ?_);have dK := And.intro @bu (And.intro @hds @K6);refine aa (hK _ ?_);clear hK K;show ∃ x, _ ∧ _ ∧ Weak _ _;refine ⟨k + 1, ?_, ?_, ay [4, 11, 12, 13]⟩
   ·omega
   ·omega
  ·have hk2 : k = (edL N N.ends.length).length := by
    have : ¬ k < (edL N N.ends.length).length := by simpa using hb
    omega
   refine ao ?_;refine ba [4] (by simp only [ac, pZ, simprocAttr]; exact rfl) ?_;refine ab (dR fun K hK => ?_);(repeat refine eV ?_);refine aa (hK _ (wK [2, 3] ?_));clear hK K;exact aj (al Tryz.results37 (.two (.own _ _ _ _ rfl rfl (own1 (C8 _ _ _))) (.plain _ _ rfl)) (by decide) (by rw [hk2, Pb]))
end
section
set_option maxHeartbeats 0
set_option maxRecDepth 8000
open Go Go.RowKit
theorem D5 (N : Net) (htm : Tame N) (k : Int) : ∃ (L : List Int) (S : Nat) (ok : Bool), DCalls Tryz.prog 34 [.agg (bj NFz N), .c (.p (.int .i64 k))] (fun r => r = [.own false [.sl true 3 1 (L.map iC)], .c (.p (.int .i64 S)), .c (.p (.bool ok))]) ∧ DCalls Tryz.prog 35 [.agg (bj NFz N), .c (.p (.int .i64 k))] (fun r => r = [.own false [.sl true 3 1 (L.map iC)], .c (.p (.int .i64 S)), .c (.p (.bool ok))]) ∧ L.length ≤ 64 ∧
 (ok = true → ∃ m : Nat, k = m ∧ 1 ≤ m ∧ m ≤ 10 ∧ bn N = true ∧ plB N = true ∧ L = dfs N m S ∧ crw N m (dfs N m S) = -1 ∧ inS N m S + S ≤ (edL N N.ends.length).length) := by
 have hli := htm.ids;have hln := htm.len
 by_cases h : (bn N && plB N && inB k 1 10) = true
 ·simp only [Bool.and_eq_true] at h;obtain ⟨⟨hg, hp⟩, hk⟩ := h;have hk2 := db.1 hk;obtain ⟨m, rfl⟩ := Int.eq_ofNat_of_zero_le (show 0 ≤ k by omega);obtain ⟨hs, -, -, -⟩ := b0 hg;obtain ⟨S, h1, h2, h3⟩ := Mz (k := m) hs hp (by omega);have hb := so N hg;exact ⟨dfs N m S, S, true, l7 NFz N m S hg hp (by omega) (by omega) h1 h2 (by omega), ne NFz N m S hg hp (by omega) (by omega) h1 h2 (by omega), by rw [fm]; exact hln, fun _ => ⟨m, rfl, by omega, by omega, hg, hp, rfl, h1, h3⟩⟩
 ·have h0 : (bn N && plB N && inB k 1 10) = false := by simpa using h
  exact ⟨[], 0, false, ls NFz N k h0 (by omega), l6 NFz N k h0, by simp, fun h => by cases h⟩
def drawDefcSt5 : Nat → Stat
 | 0 => ⟨[5], [(5, 1)], [5], [15], [], []⟩
 | 1 => ⟨[4], [], [], [16], [], []⟩
 | 2 => ⟨[], [], [], [17], [], []⟩
 | 3 => ⟨[16, 17], [(17, 1)], [8, 17], [18], [(8, 1)], []⟩
 | 4 => ⟨[2, 15], [(2, 1)], [], [], [(2, 1)], []⟩
 | 5 => ⟨[18], [], [], [3], [], []⟩
 | _ => ⟨[], [], [], [], [], []⟩
def zBDf81 := PLift.up (And.intro aq (And.intro Kz (And.intro n9 (And.intro cr (And.intro K0 (And.intro @cl (And.intro b6 (And.intro bl (And.intro bp (And.intro @netO.eq_1 (And.intro @netZ.eq_1 (And.intro @if_pos.{1} (And.intro @bw @trivial)))))))))))))
theorem My : type_of% zBDf81.down := zBDf81.down
theorem j7 (bs : List Int) (hby : ch bs) : cg Tryz.prog 33 [.c (e8 bs)] (fun r => ∃ (N : Net) (k : Int), r = [.agg (netZ N), .c (.p (.int .i64 k))] ∧ Tame N ∧ j6 [1, 2, 2, 2, 3, 3, 4, 10, 11, 0] k) := by
 refine ny (by simp [Arg.isIo]) Tryz.func33 rfl (by rw [Tryz.ntmps33]; simp) fun w0 => ?_;rw [Tryz.ntmps33];have dX := My;simp only [bq, bb, Arg.av, e8];refine ab (dR fun K hK => ?_);(repeat refine eV ?_);refine aa (hK _ (wK [0, 2] ?_));clear hK K;refine ab (dR fun K hK => ?_);(repeat refine eV ?_);refine aa (hK _ (wK [2, 4, 8] ?_));clear hK K;refine ab (dR fun K hK => ?_);(repeat refine eV ?_);refine j4 rfl ⟨rfl, _, rfl⟩ (by omega) (by first | exact Mb) (Id bs 0 0 0 hby (Nat.zero_le 0) (by omega)) ?_;rintro _ ⟨p1, s1, _, rfl, hp1, N1, rfl, ht1⟩;refine ioF ?_;(repeat refine eV ?_);refine aa (hK _ (wK [2, 4, 5, 8] ?_));clear hK K;refine fl (X := Net × Nat × Int) (fun x => Tame x.1 ∧ x.2.1 ≤ 1300000000000000000) (fun x => mkE 19 [(2, .box), (4, .ptr 8 0 [(0, 0)] 0), (5, .box), (8, .box)] [((2, 0), ⟨some 27, [.p (.slice none 0 0), .p (.slice none 0 0), .p (.slice none 0 0)]⟩), ((5, 0), ⟨some 27, [.sl false 103 1 (x.1.ends.map (esC 111)), .sl false 3 1 (x.1.ids.map iC), .sl false 3 1 (x.1.inputs.map iC)]⟩), ((8, 0), ⟨some 70, [.sl false 5 1 (bs.map bC), .p (.int .i64 x.2.1), .p (.int .u64 x.2.2)]⟩)]) ?_ ?_
 ·refine ab (dR fun K hK => ?_);(repeat refine eV ?_);refine gv rfl ⟨rfl, _, rfl⟩ (by omega) (by first | exact mi) (ob bs p1 s1 8 _ hby hp1 (by omega)) ?_;rintro _ ⟨p2, s2, _, rfl, hp2, b2, rfl⟩;refine ioF ?_;(repeat refine eV ?_);refine aa (hK _ (wK [2, 4, 5, 8, 12] ?_));clear hK K;refine dI ?_ ?_<;>intro hb
  ·refine dR fun K hK => ?_;(repeat refine eV ?_);refine j4 rfl ⟨rfl, _, rfl⟩ (by omega) (by first | exact Qb) (Hj bs p2 s2 8 _ _ rfl hby hp2 (by omega) (by omega) (by omega)) ?_;rintro _ ⟨p3, s3, _, rfl, hp3, N2, rfl, ht2⟩;refine ioF ?_;(repeat refine eV ?_);refine aa (hK _ ?_);clear hK K;show ∃ x, _ ∧ Weak _ _;refine ⟨⟨N2, p3, s3⟩, ?_, ((pn _ 5).trans (aw _ [2, 4, 5, 8])).trans (Weak.of_eq (by simp only [ac, pZ, simprocAttr , netO] <;> exact rfl))⟩;exact ⟨ht2, by dsimp only; omega⟩
  ·refine af ?_;show ∃ x, _ ∧ Weak _ _;refine ⟨⟨N1, p2, s2⟩, ?_, (aw _ [2, 4, 5, 8]).trans (Weak.of_eq (by simp only [ac, pZ, simprocAttr] <;> exact rfl))⟩;exact ⟨ht1, by dsimp only; omega⟩
 ·rintro ⟨N, p4, s4⟩ ⟨ht, hp4⟩;dsimp only at ht hp4 ⊢;have dX := And.intro dX (@drawDefcSt5.eq_def);refine ab (em drawDefcSt5 (fun j r => match j with | 3 => CurO bs (1300000000000000000 + 2) (fun rs => ∃ x, rs = [.c (.p (.int .i64 x))] ∧ j6 [1, 2, 2, 2, 3, 3, 4, 10, 11, 0] x) r | _ => True) fun K hK => ?_);(repeat refine dV ?_);refine H0 rfl (by simp (disch := first | omega | (intros; contradiction)) only [ac, bh, j5, pZ, simprocAttr, aq, Kz, n9, cr, K0, cl, b6, bl, bp, netO, netZ, if_pos, bw , drawDefcSt5]) (Jn [1, 2, 2, 2, 3, 3, 4, 10, 11, 0] rfl rfl rfl rfl bp rfl cr rfl rfl (by simp) (by simp) (by omega)) ?_;have dX := And.intro dX (@drawDefcSt5.eq_def);refine n7 rfl ⟨rfl, _, rfl⟩ (by omega) (by first | exact oc) (jw bs p4 s4 _ _ [1, 2, 2, 2, 3, 3, 4, 10, 11, 0] (1300000000000000000) hby (by omega) (by omega) (by simp) (by simp)) (CurO.ex ⟨_, _, rfl, 0, by simp, rfl⟩) ?_;rintro _ ⟨p5, s5, _, rfl, hp5, x5, rfl, hx5⟩;refine l0 ?_;(repeat refine dV ?_);refine a6 (hK _ (wK [2, 3, 8] ?_));clear hK K;exact aj (mq Tryz.results33 (.two (.cell 2 _ _ _ _ rfl rfl aq rfl rfl rfl) (.re _ _ (.plain _ _ rfl))) (by decide) ⟨N, x5, rfl, ht, hx5⟩)
def drawIsdSt3 : Nat → Stat
 | 0 => ⟨[5], [], [], [16], [], []⟩
 | 1 => ⟨[6], [(6, 1)], [6], [17], [], []⟩
 | 2 => ⟨[5], [], [], [18], [], []⟩
 | 3 => ⟨[], [], [], [19], [], []⟩
 | 4 => ⟨[18, 19], [(19, 1)], [13, 19], [20], [(13, 1)], []⟩
 | 5 => ⟨[16, 17, 20], [], [13], [21], [(13, 1)], []⟩
 | 6 => ⟨[21], [], [21], [7], [(21, 1)], []⟩
 | _ => ⟨[], [], [], [], [], []⟩
def drawIsdSt7 : Nat → Stat
 | 0 => ⟨[6], [(6, 1)], [6], [34], [], []⟩
 | 1 => ⟨[7], [], [], [35], [], []⟩
 | 2 => ⟨[5], [], [], [36], [], []⟩
 | 3 => ⟨[], [], [], [37], [], []⟩
 | 4 => ⟨[36, 37], [(37, 1)], [13, 37], [38], [(13, 1)], []⟩
 | 5 => ⟨[2, 34], [(2, 1)], [], [], [(2, 1)], []⟩
 | 6 => ⟨[35], [], [7], [3], [(7, 1)], []⟩
 | 7 => ⟨[38], [], [], [4], [], []⟩
 | _ => ⟨[], [], [], [], [], []⟩
theorem rc (bs : List Int) (hby : ch bs) : cg Tryz.prog 40 [.c (e8 bs)] (fun r => ∃ (N : Net) (l : List Int) (d : Int), r = [.agg (netZ N), .own false [.sl true 3 1 (l.map iC)], .c (.p (.int .i64 d))] ∧ Tame N ∧ l.length ≤ 64) := by
 refine ny (by simp [Arg.isIo]) Tryz.func40 rfl (by rw [Tryz.ntmps40]; simp) fun w0 => ?_;rw [Tryz.ntmps40];have dX := My;simp only [bq, bb, Arg.av, e8];refine ab (dR fun K hK => ?_);(repeat refine eV ?_);refine aa (hK _ (wK [0, 2] ?_));clear hK K;refine ab (dR fun K hK => ?_);(repeat refine eV ?_);refine aa (hK _ (wK [2, 5, 13] ?_));clear hK K;refine ab (dR fun K hK => ?_);(repeat refine eV ?_);refine j4 rfl ⟨rfl, _, rfl⟩ (by omega) (by first | exact Mb) (Id bs 0 0 0 hby (Nat.zero_le 0) (by omega)) ?_;rintro _ ⟨p1, s1, _, rfl, hp1, N1, rfl, ht1⟩;refine ioF ?_;(repeat refine eV ?_);refine aa (hK _ (wK [2, 5, 6, 13] ?_));clear hK K;have hl1 := ht1.len;have dX := And.intro dX (@drawIsdSt3.eq_def);refine ab (em drawIsdSt3 (fun j r => match j with | 4 => CurO bs (600000000000000000 + 2) (fun rs => ∃ x, rs = [.c (.p (.int .i64 x))] ∧ j6 [2, 3, 8] x) r | 5 => CurO bs (600000000000000000 + 2 + 10000) (fun rs => ∃ l : List Int, rs = [.own false [.sl true 3 1 (l.map iC)]] ∧ l.length = N1.ends.length) r | _ => True) fun K hK => ?_);(repeat refine dV ?_);have dX := And.intro dX (@drawIsdSt3.eq_def);refine n7 rfl ⟨rfl, _, rfl⟩ (by omega) (by first | exact oc | exact L8) (jw bs p1 s1 _ _ [2, 3, 8] (600000000000000000) hby (by omega) (by omega) (by simp) (by simp)) (CurO.ex ⟨_, _, rfl, 0, by simp, rfl⟩) ?_;rintro _ ⟨p2, s2, _, rfl, hp2, x2, rfl, hx2⟩;refine l0 ?_;(repeat refine dV ?_);have dX := And.intro dX (@drawIsdSt3.eq_def);refine T1 rfl ⟨rfl, _, rfl⟩ (by omega) (by first | exact oc | exact L8) (D8 bs p2 s2 NFz N1 x2 (600000000000000000 + 2) hby (by omega) (by omega) ht1) (CurO.ex ⟨_, List.replicate N1.ends.length 0, rfl, List.length_replicate⟩) ?_;rintro _ ⟨p3, s3, _, rfl, hp3, l3, rfl, hl3⟩;refine l0 ?_;(repeat refine dV ?_);refine a6 (hK _ (wK [2, 5, 6, 7, 13] ?_));clear hK K;obtain ⟨L, S, ok, -, hS, hL, -⟩ := D5 N1 ht1 2;refine fl (X := List Int × Nat × Int) (fun z => z.1.length ≤ 64 ∧ z.2.1 ≤ 700000000000000000) (fun z => mkE 39 [(2, .box), (5, .ptr 13 0 [(0, 0)] 0), (6, .box), (7, .own false 1), (13, .box)] [((2, 0), ⟨some 27, [.p (.slice none 0 0), .p (.slice none 0 0), .p (.slice none 0 0)]⟩), ((6, 0), ⟨some 27, [.sl false 103 1 (N1.ends.map (esC 111)), .sl false 3 1 (N1.ids.map iC), .sl false 3 1 (N1.inputs.map iC)]⟩), ((7, 0), ⟨none, [.sl true 3 1 (z.1.map iC)]⟩), ((13, 0), ⟨some 70, [.sl false 5 1 (bs.map bC), .p (.int .i64 z.2.1), .p (.int .u64 z.2.2)]⟩)]) ?_ ?_
 ·refine ab (dR fun K hK => ?_);(repeat refine eV ?_);refine cL rfl ⟨rfl, _, rfl⟩ (by omega) (by first | exact Qe) (hS) ?_;rintro _ rfl;(repeat refine eV ?_);refine aa (hK _ (wK [2, 5, 6, 7, 8, 10, 13] ?_));clear hK K
  cases ok with
  | true =>
   refine ab (dR fun K hK => ?_);(repeat refine eV ?_);refine T2 rfl rfl ⟨rfl, _, rfl⟩ (by omega) (by first | exact mi) (ob bs p3 s3 2 _ hby hp3 (by omega)) ?_;rintro _ ⟨p4, s4, _, rfl, hp4, b4, rfl⟩;refine ioF ?_;(repeat refine eV ?_);refine aa (hK _ (wK [2, 5, 6, 7, 8, 13, 32] ?_));clear hK K;refine dI ?_ ?_<;>intro hb
   ·refine dR fun K hK => ?_;(repeat refine eV ?_);refine aa (hK _ ?_);clear hK K;show ∃ x, _ ∧ Weak _ _;refine ⟨⟨L, p4, s4⟩, ?_, (aw _ [2, 5, 6, 7, 13]).trans (Weak.of_eq (by simp only [ac, pZ, simprocAttr] <;> exact rfl))⟩;exact ⟨hL, by dsimp only; omega⟩
   ·refine af ?_;show ∃ x, _ ∧ Weak _ _;refine ⟨⟨l3, p4, s4⟩, ?_, (aw _ [2, 5, 6, 7, 13]).trans (Weak.of_eq (by simp only [ac, pZ, simprocAttr] <;> exact rfl))⟩;exact ⟨by dsimp only; omega, by dsimp only; omega⟩
  | false =>
   refine ab (dR fun K hK => ?_);(repeat refine eV ?_);refine csF ?_;(repeat refine eV ?_);refine aa (hK _ (wK [2, 5, 6, 7, 8, 13, 32] ?_));clear hK K;refine dI ?_ ?_<;>intro hb
   ·cases hb
   ·refine af ?_;show ∃ x, _ ∧ Weak _ _;refine ⟨⟨l3, p3, s3⟩, ?_, (aw _ [2, 5, 6, 7, 13]).trans (Weak.of_eq (by simp only [ac, pZ, simprocAttr] <;> exact rfl))⟩;exact ⟨by dsimp only; omega, by dsimp only; omega⟩
 ·rintro ⟨l, p5, s5⟩ ⟨hl5, hp5⟩;dsimp only at hl5 hp5 ⊢;have dX := And.intro dX (@drawIsdSt7.eq_def);refine ab (em drawIsdSt7 (fun j r => match j with | 4 => CurO bs (700000000000000000 + 2) (fun rs => ∃ x, rs = [.c (.p (.int .i64 x))] ∧ j6 [0, 0, 1, 1, 2, 3, -1, 100] x) r | _ => True) fun K hK => ?_);(repeat refine dV ?_);have dX := And.intro dX (@drawIsdSt7.eq_def);refine n7 rfl ⟨rfl, _, rfl⟩ (by omega) (by first | exact oc) (jw bs p5 s5 _ _ [0, 0, 1, 1, 2, 3, -1, 100] (700000000000000000) hby (by omega) (by omega) (by simp) (by simp)) (CurO.ex ⟨_, _, rfl, 0, by simp, rfl⟩) ?_;rintro _ ⟨p6, s6, _, rfl, hp6, x6, rfl, hx6⟩;refine l0 ?_;(repeat refine dV ?_);refine a6 (hK _ (wK [2, 3, 4, 13] ?_));clear hK K;exact aj (mq Tryz.results40 (.three (.cell 2 _ _ _ _ rfl rfl aq rfl rfl rfl) (.re _ _ (.own _ _ _ _ rfl rfl (own1 (bo _ _)))) (.re _ _ (.plain _ _ rfl))) (by decide) ⟨N1, l, x6, rfl, ht1, hl5⟩)
end
section
open Go Go.RowKit
def zBDf91 := PLift.up (And.intro aq (And.intro Kz (And.intro n9 (And.intro cr (And.intro K0 (And.intro @cl (And.intro b6 (And.intro bl (And.intro bp (And.intro @netO.eq_1 (And.intro @netZ.eq_1 (And.intro @if_pos.{1} (And.intro @bw @trivial)))))))))))))
theorem R5 : type_of% zBDf91.down := zBDf91.down
set_option maxRecDepth 8000 in
set_option maxHeartbeats 0 in
theorem Ci (bs : List Int) (hby : ch bs) : cg Tryz.prog 43 [.c (e8 bs)] (fun r => ∃ (N : Net) (l : List Int), r = [.agg (netZ N), .own false [.sl true 3 1 (l.map iC)]] ∧ Tame N ∧ l.length ≤ 65) := by
 refine ny (by simp [Arg.isIo]) Tryz.func43 rfl (by rw [Tryz.ntmps43]; simp) fun w0 => ?_;rw [Tryz.ntmps43];have dX := R5;simp only [bq, bb, Arg.av, e8];refine ab (dR fun K hK => ?_);(repeat refine eV ?_);refine aa (hK _ (wK [0, 2] ?_));clear hK K;refine ab (dR fun K hK => ?_);(repeat refine eV ?_);refine aa (hK _ (wK [2, 4, 9] ?_));clear hK K;refine ab (dR fun K hK => ?_);(repeat refine eV ?_);refine j4 rfl ⟨rfl, _, rfl⟩ (by omega) (by first | exact Qb) (Hj bs 0 0 8 _ 0 rfl hby (Nat.zero_le 0) (by omega) (by omega) (by omega)) ?_;rintro _ ⟨p1, s1, _, rfl, hp1, N1, rfl, ht1⟩;refine ioF ?_;(repeat refine eV ?_);have dK := @netO.eq_1;refine aa (hK _ (a7 [2, 4, 5, 9] ?_));clear hK K;refine ph 5 [2, 4, 5, 9] (by simp only [ac, pZ, simprocAttr]; exact rfl) ?_;obtain ⟨B, hBe⟩ : ∃ B : Nat, B = 600000000000000000 := ⟨_, rfl⟩;have hpB : p1 ≤ B := by omega
 clear hp1;have hl1 := ht1.len;refine ab (dR fun K hK => ?_);(repeat refine eV ?_);refine aa (hK _ (wK [2, 4, 5, 6, 9] ?_));clear hK K;refine fu 6 3 1 (by decide) (by simp only [ac, pZ, simprocAttr]) [2, 4, 5, 6, 9] (by simp only [ac, pZ, simprocAttr]; exact rfl) ?_;refine ab ?_;refine ab (dR fun K hK => ?_);(repeat refine eV ?_);refine aa (hK _ (wK [2, 4, 5, 6, 9, 14, 15] ?_));clear hK K;refine ah ?_;refine ax (X := List Int × Nat × Int) (fun x => x.1.length ≤ N1.ends.length ∧ x.2.1 ≤ B + 2 * x.1.length) (fun x => [(15, .c (.p (.int .i64 x.1.length)))]) (fun x => [((6, 0), ⟨none, [.sl true 3 1 (x.1.map iC)]⟩), ((9, 0), ⟨some 70, [.sl false 5 1 (bs.map bC), .p (.int .i64 x.2.1), .p (.int .u64 x.2.2)]⟩)]) (fun x => N1.ends.length - x.1.length) ([], p1, s1) ⟨Nat.zero_le _, by simpa using hpB⟩ (by first | rfl | (simp only [ac, pZ, simprocAttr, Int.natCast_zero, List.map_nil, List.length_nil] <;> rfl)) ?_;rintro ⟨l, p2, s2⟩ ⟨hll, hp2⟩;intro E hE;simp only [ac, pZ, simprocAttr] at hE;subst hE;dsimp only at hll hp2 ⊢;refine ab (dR fun K hK => ?_);(repeat refine eV ?_);refine aa (hK _ (wK [2, 4, 5, 6, 9, 14, 15, 16] ?_));clear hK K;refine ab (dI (fun hb => ?_) (fun hb => ?_))
 ·have hk1 : l.length < N1.ends.length := by simpa using hb
  refine af ?_;show DW _ _ _ _ _;refine ab (ah ?_);refine dR fun K hK => ?_;(repeat refine eV ?_);refine gv rfl ⟨rfl, _, rfl⟩ (by omega) (by first | exact dt) (df bs p2 s2 2 _ hby hp2 (by omega)) ?_;rintro _ ⟨p3, s3, _, rfl, hp3, x3, rfl, hx3⟩;refine ioF ?_;(repeat refine eV ?_);have dK := @gd;refine aa (hK _ (a7 [2, 4, 5, 6, 9, 14, 15] ?_));clear hK K;have hle : ((l ++ [x3]).length : Nat) = l.length + 1 := by simp
  refine dR fun K hK => ?_;(repeat refine eV ?_);have dK := And.intro @bu @hle;refine aa (hK _ ?_);clear hK K;show ∃ x, _ ∧ _ ∧ Weak _ _;refine ⟨(l ++ [x3], p3, s3), ?_, ?_, ay [2, 4, 5, 6, 9, 14, 15]⟩
  ·exact ⟨by dsimp only; omega, by dsimp only; omega⟩
  ·dsimp only; omega
 ·refine ao ?_;refine ba [2, 4, 5, 6, 9] (by simp only [ac, pZ, simprocAttr]; exact rfl) ?_;refine fl (X := List Int × Nat × Int) (fun z => z.1.length ≤ 65) (fun z => mkE 39 [(2, .box), (5, .box), (6, .own false 1), (9, .box)] [((2, 0), ⟨some 27, [.p (.slice none 0 0), .p (.slice none 0 0), .p (.slice none 0 0)]⟩), ((5, 0), ⟨some 27, [.sl false 103 1 (N1.ends.map (esC 111)), .sl false 3 1 (N1.ids.map iC), .sl false 3 1 (N1.inputs.map iC)]⟩), ((6, 0), ⟨none, [.sl true 3 1 (z.1.map iC)]⟩), ((9, 0), ⟨some 70, [.sl false 5 1 (bs.map bC), .p (.int .i64 z.2.1), .p (.int .u64 z.2.2)]⟩)]) ?_ ?_
  ·refine ab (dR fun K hK => ?_);(repeat refine eV ?_);refine gv rfl ⟨rfl, _, rfl⟩ (by omega) (by first | exact dt) (df bs p2 s2 12 _ hby hp2 (by omega)) ?_;rintro _ ⟨p3, s3, _, rfl, hp3, x3, rfl, hx3⟩;refine ioF ?_;(repeat refine eV ?_);refine aa (hK _ (wK [2, 5, 6, 9, 24] ?_));clear hK K;refine ah ?_;refine ab (dR fun K hK => ?_);(repeat refine eV ?_);refine aa (hK _ (wK [2, 5, 6, 9, 24, 25] ?_));clear hK K;refine dI ?_ ?_<;>intro hb
   ·refine dR fun K hK => ?_;(repeat refine eV ?_);refine aa (hK _ ?_);clear hK K;show ∃ x, _ ∧ Weak _ _;refine ⟨(l ++ [0], p3, s3), ?_, (aw _ [2, 5, 6, 9]).trans (Weak.of_eq (by simp only [ac, pZ, simprocAttr , gd] <;> exact rfl))⟩;simp; omega
   ·refine ab (dR fun K hK => ?_);(repeat refine eV ?_);refine aa (hK _ (wK [2, 5, 6, 9, 30] ?_));clear hK K;refine dI ?_ ?_<;>intro hb
    ·refine ab (dR fun K hK => ?_);(repeat refine eV ?_);refine aa (hK _ (wK [2, 5, 6, 9, 34] ?_));clear hK K;refine dI ?_ ?_<;>intro hb
     ·have h0 : 0 < l.length := by have := of_decide_eq_true hb; omega
      have dX := And.intro dX (And.intro @ca @wn);refine dR fun K hK => ?_;(repeat refine eV ?_);refine aa (hK _ ?_);clear hK K;show ∃ x, _ ∧ Weak _ _;refine ⟨(l.set 0 (-1), p3, s3), ?_, (aw _ [2, 5, 6, 9]).trans (Weak.of_eq (by simp only [ac, pZ, simprocAttr , ca, wn] <;> exact rfl))⟩;show (l.set 0 (-1)).length ≤ 65;rw [List.length_set]; omega
     ·refine af ?_;show ∃ x, _ ∧ Weak _ _;refine ⟨(l, p3, s3), ?_, (aw _ [2, 5, 6, 9]).trans (Weak.of_eq (by simp only [ac, pZ, simprocAttr] <;> exact rfl))⟩;show l.length ≤ 65;omega
    ·refine af ?_;show ∃ x, _ ∧ Weak _ _;refine ⟨(l, p3, s3), ?_, (aw _ [2, 5, 6, 9]).trans (Weak.of_eq (by simp only [ac, pZ, simprocAttr] <;> exact rfl))⟩;show l.length ≤ 65;omega
  ·rintro ⟨l, p4, s4⟩ hl4;dsimp only at hl4 ⊢;refine ab (dR fun K hK => ?_);(repeat refine eV ?_);refine aa (hK _ (wK [2, 3, 9] ?_));clear hK K;exact aj (mq Tryz.results43 (.two (.cell 2 _ _ _ _ rfl rfl aq rfl rfl rfl) (.re _ _ (.own _ _ _ _ rfl rfl (own1 (bo _ _))))) (by decide) ⟨N1, l, rfl, ht1, hl4⟩)
end
end Go.Proofs.YtolpiolnhgpjjaaGreat
