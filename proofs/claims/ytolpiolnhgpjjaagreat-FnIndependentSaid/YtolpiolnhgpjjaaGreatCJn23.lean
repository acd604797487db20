/- Parts of the proof. -/
import Derived.Test.YtolpiolnhgpjjaaGreatCJn22
import Derived.Test.YtolpiolnhgpjjaaGreatCDt
set_option linter.unusedSimpArgs false
set_option linter.unusedVariables false
namespace Go.Proofs.YtolpiolnhgpjjaaGreat
section
set_option maxHeartbeats 0
set_option maxRecDepth 8000
open Go Go.RowKit
def ph (N : Net) (v i : Nat) : Bool := decide ((v : Int) < (gp (gl N.ends v) i).1) || (decide ((v : Int) = (gp (gl N.ends v) i).1) && decide ((i : Int) ≤ (gp (gl N.ends v) i).2))
def zBEd11 := PLift.up (And.intro dh (And.intro an (And.intro a6 (And.intro am (And.intro @if_pos.{1} (And.intro aw (And.intro @be (And.intro bh (And.intro aq (And.intro @bg (And.intro @bf (And.intro @List.take_succ_cons.{0} (And.intro @List.take_zero.{0} @trivial)))))))))))))
theorem Sa : type_of% zBEd11.down := zBEd11.down
theorem Ou (f : NF) (N : Net) (v i : Nat) (hv : v < N.ends.length) (hi : i < (gl N.ends v).length) : DCalls Tryz.prog 196 [.agg (bw f N), .c (.p (.int .i64 v)), .c (.p (.int .i64 i))] (fun r => r = [.c (.p (.bool (ph N v i)))]) := by
 refine au Tryz.func196 rfl (by rw [Tryz.ntmps196]; simp) fun w0 => ?_;rw [Tryz.ntmps196];have dX := Sa;simp only [ce, bm, Arg.av, bw, cm, ints, ends];refine ab (dR fun K hK => ?_);(repeat refine eV ?_);refine aa (hK _ (wK [1, 2, 3] ?_));clear hK K;refine ab (dR fun K hK => ?_);(repeat refine eV ?_);refine aa (hK _ (wK [1, 2, 7] ?_));clear hK K;refine ab (dR fun K hK => ?_);(repeat refine eV ?_);obtain h | h := Bool.eq_false_or_eq_true (decide ((v : Int) < (gp (gl N.ends v) i).1))
 ·have dX := And.intro dX (@h);(repeat refine eV ?_);refine aa (hK _ (wK [6] ?_));clear hK K;exact aj (al Tryz.results196 (.one (.plain _ _ rfl)) (by decide) (by rw [ph, h]; rfl))
 ·have dX := And.intro dX (@h);(repeat refine eV ?_);obtain h2 | h2 := Bool.eq_false_or_eq_true ((v : Int) == (gp (gl N.ends v) i).1)
  ·have dX := And.intro dX (And.intro @h @h2);(repeat refine eV ?_);refine aa (hK _ (wK [6] ?_));clear hK K;exact aj (al Tryz.results196 (.one (.plain _ _ rfl)) (by decide) (by rw [ph, h, show decide ((v : Int) = (gp (gl N.ends v) i).1) = true by simpa using h2]; rfl))
  ·have dX := And.intro dX (And.intro @h @h2);(repeat refine eV ?_);refine aa (hK _ (wK [6] ?_));clear hK K;exact aj (al Tryz.results196 (.one (.plain _ _ rfl)) (by decide) (by rw [ph, h, show decide ((v : Int) = (gp (gl N.ends v) i).1) = false by simpa using h2]; rfl))
def Cb (N : Net) (v i : Nat) : List (List Int) := if ph N v i = true then [[(v : Int), (i : Int), (gp (gl N.ends v) i).1, (gp (gl N.ends v) i).2]] else []
def jb (N : Net) (v m : Nat) : List (List Int) := (List.range m).flatMap (Cb N v)
def kz (N : Net) (m : Nat) : List (List Int) := (List.range m).flatMap fun v => jb N v (gl N.ends v).length
theorem Iw (N : Net) (v : Nat) : jb N v 0 = [] := rfl
theorem mv (N : Net) (v m : Nat) : jb N v (m + 1) = jb N v m ++ Cb N v m := by simp [jb, List.range_succ]
theorem ux (N : Net) (m : Nat) : kz N (m + 1) = kz N m ++ jb N m (gl N.ends m).length := by simp [kz, List.range_succ]
theorem Cc (N : Net) (v m : Nat) : (jb N v m).length ≤ m := by
 induction m with
 | zero => simp [jb]
 | succ m ih =>
  rw [mv, List.length_append];have : (Cb N v m).length ≤ 1 := by unfold Cb; split <;> simp
  omega
theorem Ei (N : Net) : ∀ m, m ≤ N.ends.length → (∀ v, v < N.ends.length → (gl N.ends v).length ≤ 1000) → (kz N m).length ≤ m * 1000
 | 0, _, _ => by simp [kz]
 | m + 1, h, hd => by
  rw [ux, List.length_append, Nat.add_mul];have h1 := Ei N m (by omega) hd;have h2 := Cc N m (gl N.ends m).length;have h3 := hd m (by omega);omega
theorem Qo (t : TypeId) (L : List (List Int)) (a b c d : Int) : L.map (lsC t) ++ [[C.sl true t 1 [[C.p (.int .i64 a)], [C.p (.int .i64 b)], [C.p (.int .i64 c)], [C.p (.int .i64 d)]]]] = (L ++ [[a, b, c, d]]).map (lsC t) := by simp [lsC, iC]
theorem Ov (f : NF) (N : Net) (hl : N.ends.length ≤ 1000) (hd : ∀ v, v < N.ends.length → (gl N.ends v).length ≤ 1000) : DCalls Tryz.prog 161 [.agg (bw f N)] (fun r => r = [.own false [.sl true 25 1 ((kz N N.ends.length).map (lsC 3))]]) := by
 refine au Tryz.func161 rfl (by rw [Tryz.ntmps161]; simp) fun w0 => ?_;rw [Tryz.ntmps161];have dX := Sa;simp only [ce, bm, Arg.av, bw, cm, ints, ends];refine ab (dR fun K hK => ?_);(repeat refine eV ?_);refine aa (hK _ (wK [1] ?_));clear hK K;refine ab (dR fun K hK => ?_);(repeat refine eV ?_);refine aa (hK _ (wK [1, 3] ?_));clear hK K;refine ab ?_;refine ab (dR fun K hK => ?_);(repeat refine eV ?_);refine aa (hK _ (wK [1, 3, 9, 10, 11] ?_));clear hK K;refine af ?_;refine ev 3 25 1 (by decide) (by simp only [ac, pZ, simprocAttr]) [1, 3, 9, 10, 11] (by simp only [ac, pZ, simprocAttr]; exact rfl) ?_;refine ba (X := Nat) (fun k => k ≤ N.ends.length) (fun k => [(11, .c (.p (.int .i64 k)))]) (fun k => [((3, 0), ⟨none, [.sl true 25 1 ((kz N k).map (lsC 3))]⟩)]) (fun k => N.ends.length - k) 0 (Nat.zero_le _) (by first | rfl | (simp only [ac, pZ, simprocAttr, Int.natCast_zero] <;> rfl)) ?_;rintro k hk;intro E hE;simp only [ac, pZ, simprocAttr] at hE;subst hE;refine ab (dR fun K hK => ?_);(repeat refine eV ?_);refine aa (hK _ (wK [1, 3, 9, 10, 11, 12] ?_));clear hK K;refine ab (dI (fun hb => ?_) (fun hb => ?_))
 ·refine ae ?_;show DW _ _ _ _ _;have hk1 : k < N.ends.length := by simpa using hb
  refine ab (af ?_);refine ab (dR fun K hK => ?_);(repeat refine eV ?_);refine aa (hK _ (wK [1, 3, 4, 5, 9, 10, 11] ?_));clear hK K;refine ab (dR fun K hK => ?_);(repeat refine eV ?_);refine aa (hK _ (wK [1, 3, 4, 9, 10, 11, 16, 17, 18] ?_));clear hK K;refine af ?_;have hdk := hd k hk1;refine ba (X := Nat) (fun i => i ≤ (gl N.ends k).length) (fun i => [(18, .c (.p (.int .i64 i)))]) (fun i => [((3, 0), ⟨none, [.sl true 25 1 ((kz N k ++ jb N k i).map (lsC 3))]⟩)]) (fun i => (gl N.ends k).length - i) 0 (Nat.zero_le _) (by first | rfl | (simp only [ac, pZ, simprocAttr, Int.natCast_zero, Iw] <;> rfl)) ?_;rintro i hi;intro E hE;simp only [ac, pZ, simprocAttr] at hE;subst hE;refine ab (dR fun K hK => ?_);(repeat refine eV ?_);refine aa (hK _ (wK [1, 3, 4, 9, 10, 11, 16, 17, 18, 19] ?_));clear hK K;refine ab (dI (fun hb => ?_) (fun hb => ?_))
  ·refine ae ?_;show DW _ _ _ _ _;have hi1 : i < (gl N.ends k).length := by simpa using hb
   have hlen : (kz N k ++ jb N k i).length ≤ 2000000 := by
    rw [List.length_append];have h1 := Ei N k (by omega) hd;have h2 := Cc N k i;have h3 : k * 1000 ≤ 1000 * 1000 := Nat.mul_le_mul_right 1000 (by omega);omega
   refine ab (af ?_);refine ab (dR fun K hK => ?_);(repeat refine eV ?_);refine aa (hK _ (wK [1, 3, 4, 6, 7, 9, 10, 11, 16, 17, 18] ?_));clear hK K;refine ab (dR fun K hK => ?_);(repeat refine eV ?_);refine cL rfl ⟨rfl, _, rfl⟩ (by omega) (by first | exact Wc) (Ou ⟨false, f.t1, f.o2, f.t2, false, f.t3, false, f.t4⟩ N k i hk1 hi1) ?_;rintro _ rfl;(repeat refine eV ?_);refine aa (hK _ (wK [1, 3, 4, 6, 7, 9, 10, 11, 16, 17, 18, 26] ?_));clear hK K;refine dI ?_ ?_<;>intro hb
   ·have he : jb N k (i + 1) = jb N k i ++ [[(k : Int), (i : Int), (gp (gl N.ends k) i).1, (gp (gl N.ends k) i).2]] := by rw [mv, Cb, if_pos hb]
    refine dR fun K hK => ?_;(repeat refine eV ?_);have dK := @pd;refine aa (hK _ (a8 [1, 3, 4, 9, 10, 11, 16, 17, 18] ?_));clear hK K;refine dR fun K hK => ?_;(repeat refine eV ?_);have dK := And.intro @bq (And.intro @he (And.intro @Qo @List.append_assoc.{0}));refine aa (hK _ ?_);clear hK K;show ∃ x, _ ∧ _ ∧ Weak _ _;refine ⟨i + 1, ?_, ?_, a7 [1, 3, 4, 9, 10, 11, 16, 17, 18]⟩
    ·omega
    ·omega
   ·have he : jb N k (i + 1) = jb N k i := by rw [mv, Cb, if_neg (by rw [hb]; simp), List.append_nil]
    refine ae ?_;show DW _ _ _ _ _;refine dR fun K hK => ?_;(repeat refine eV ?_);have dK := And.intro @bq @he;refine aa (hK _ ?_);clear hK K;show ∃ x, _ ∧ _ ∧ Weak _ _;refine ⟨i + 1, ?_, ?_, a7 [1, 3, 4, 9, 10, 11, 16, 17, 18]⟩
    ·omega
    ·omega
  ·have hi2 : i = (gl N.ends k).length := by
    have : ¬ i < (gl N.ends k).length := by simpa using hb
    omega
   have he := ux N k;rw [← hi2] at he;refine ay ?_;refine wK [1, 3, 9, 10, 11] ?_;refine dR fun K hK => ?_;(repeat refine eV ?_);have dK := And.intro @bq @he;refine aa (hK _ ?_);clear hK K;show ∃ x, _ ∧ _ ∧ Weak _ _;refine ⟨k + 1, ?_, ?_, a7 [1, 3, 9, 10, 11]⟩
   ·omega
   ·omega
 ·have hk2 : k = N.ends.length := by
   have : ¬ k < N.ends.length := by simpa using hb
   omega
  refine ay ?_;refine wK [3] ?_;refine ab (dR fun K hK => ?_);(repeat refine eV ?_);refine aa (hK _ (wK [2] ?_));clear hK K;exact aj (al Tryz.results161 (.one (.own _ _ _ _ rfl rfl (own1 (Hu _ _ _)))) (by decide) (by rw [hk2]))
end
section
open Go Go.RowKit
def mst (a b : Int) : Int := if a > b then a else b
def i7 (xs : List Int) : Int := xs.foldl (fun n k => mst n (k + 1)) 0
theorem Fs {m : Int} : ∀ (xs : List Int) (a : Int), (∀ x ∈ xs, 0 ≤ x ∧ x < m) → 0 ≤ a ∧ a ≤ m → 0 ≤ xs.foldl (fun n k => mst n (k + 1)) a ∧ xs.foldl (fun n k => mst n (k + 1)) a ≤ m
 | [], a, _, ha => ha
 | x :: xs, a, h, ha => by
  rw [List.foldl_cons];refine Fs xs _ (fun y hy => h y (by simp [hy])) ?_;have := h x (by simp);unfold mst;split <;> omega
theorem Ow {xs : List Int} {i : Nat} (h : i < xs.length) : i7 (xs.take (i + 1)) = mst (i7 (xs.take i)) (gi xs i + 1) := by
 unfold i7;rw [List.take_add_one, List.foldl_append, List.getElem?_eq_getElem h, bo h]; rfl
def zBDw11 := PLift.up (trivial)
theorem Sb : type_of% zBDw11.down := zBDw11.down
theorem Rr (a b : Int) : DCalls Tryz.prog 162 [.c (.p (.int .i64 a)), .c (.p (.int .i64 b))] (fun r => r = [.c (.p (.int .i64 (mst a b)))]) := by
 refine au Tryz.func162 rfl (by rw [Tryz.ntmps162]; simp) fun w0 => ?_;rw [Tryz.ntmps162];have dX := Sb;simp only [ce, bm, Arg.av];refine ab (dR fun K hK => ?_);(repeat refine eV ?_);refine aa (hK _ (wK [0, 1] ?_));clear hK K;refine ab ?_;refine ab (dR fun K hK => ?_);(repeat refine eV ?_);refine aa (hK _ (wK [0, 1, 7] ?_));clear hK K;refine dI ?_ ?_<;>intro hb
 ·refine ab (dR fun K hK => ?_);(repeat refine eV ?_);refine aa (hK _ (wK [4] ?_));clear hK K;exact aj (al Tryz.results162 (.one (.plain _ _ rfl)) (by decide) (by rw [mst, if_pos (by simpa using hb)]))
 ·refine ae ?_;show DW _ _ _ _ _;refine ab (dR fun K hK => ?_);(repeat refine eV ?_);refine aa (hK _ (wK [4] ?_));clear hK K;exact aj (al Tryz.results162 (.one (.plain _ _ rfl)) (by decide) (by rw [mst, if_neg (by simpa using hb)]))
set_option maxRecDepth 8000 in
set_option maxHeartbeats 0 in
theorem Qe (o : Bool) (tt : TypeId) (xs : List Int) (hx : ∀ x ∈ xs, 0 ≤ x ∧ x < 1000000) (hlen : xs.length < 1000000) : DCalls Tryz.prog 83 [.c (ints o tt xs)] (fun r => r = [.c (.p (.int .i64 (i7 xs)))]) := by
 refine au Tryz.func83 rfl (by rw [Tryz.ntmps83]; simp) fun w0 => ?_;rw [Tryz.ntmps83];have dX := Sb;simp only [ce, bm, Arg.av, ints];refine ab (dR fun K hK => ?_);(repeat refine eV ?_);refine aa (hK _ (wK [0] ?_));clear hK K;refine ab (dR fun K hK => ?_);(repeat refine eV ?_);refine aa (hK _ (wK [0, 3] ?_));clear hK K;refine ab ?_;refine ab (dR fun K hK => ?_)
 repeat (apply bj; (focus exact rfl); (focus (simp (disch := first | omega | (intros; contradiction)) only [ac, az, pZ, simprocAttr , aq]; exact rfl)))
 refine aa (hK _ (wK [3, 6, 7, 8] ?_));clear hK K;refine af ?_;refine M9 (X := Nat × Int) (fun x => x.1 ≤ xs.length ∧ x.2 = i7 (xs.take x.1)) (fun x => mkE 18 [(3, .c (.p (.int .i64 x.2))), (6, .c (.sl o tt 1 (xs.map iC))), (7, .c (.p (.int .i64 xs.length))), (8, .c (.p (.int .i64 x.1)))] []) (fun x => xs.length - x.1) (0, 0) ⟨by simp, rfl⟩ (Weak.of_eq rfl) ?_;rintro ⟨i, a⟩ ⟨hi, ha⟩;dsimp only at hi ha ⊢;refine ab (dR fun K hK => ?_);(repeat refine eV ?_);refine aa (hK _ (wK [3, 6, 7, 8, 9] ?_));clear hK K;refine ab (dI (fun hb => ?_) (fun hb => ?_))
 ·refine ae ?_;show DW _ _ _ _ _;have hi1 : i < xs.length := by simpa using hb
  have hva := Fs (m := 1000000) (xs.take i) 0 (fun x hx' => hx x (List.mem_of_mem_take hx')) (by omega);rw [show (xs.take i).foldl (fun n k => mst n (k + 1)) 0 = a from ha.symm] at hva;have hxi := hx (gi xs i) (by rw [bo hi1]; exact List.getElem_mem _);refine ab (af ?_);refine ab (dR fun K hK => ?_)
  repeat (apply bj; (focus exact rfl); (focus (simp (disch := first | omega | (intros; contradiction)) only [ac, az, pZ, simprocAttr , aq, bh, if_pos, ax]; exact rfl)))
  refine aa (hK _ (wK [3, 5, 6, 7, 8] ?_));clear hK K;refine dR fun K hK => ?_;(repeat refine eV ?_);refine cL rfl ⟨rfl, _, rfl⟩ (by omega) (by first | exact We) (Rr _ _) ?_;rintro _ rfl;(repeat refine eV ?_);refine aa (hK _ (wK [3, 6, 7, 8] ?_));clear hK K;refine dR fun K hK => ?_;(repeat refine eV ?_);have dK := @bq;refine aa (hK _ ?_);clear hK K;show ∃ x, _ ∧ _ ∧ Weak _ _;refine ⟨(i + 1, mst a (gi xs i + 1)), ?_, ?_, a7 [3, 6, 7, 8]⟩
  ·refine ⟨hi1, ?_⟩;rw [Ow hi1, ← ha]
  ·dsimp only; omega
 ·have hi2 : i = xs.length := by
   have : ¬ i < xs.length := by simpa using hb
   omega
  refine ay ?_;refine wK [3] ?_;refine ab (dR fun K hK => ?_);(repeat refine eV ?_);refine aa (hK _ (wK [2] ?_));clear hK K;exact aj (al Tryz.results83 (.one (.plain _ _ rfl)) (by decide) (by rw [ha, hi2, List.take_length]))
end
end Go.Proofs.YtolpiolnhgpjjaaGreat
