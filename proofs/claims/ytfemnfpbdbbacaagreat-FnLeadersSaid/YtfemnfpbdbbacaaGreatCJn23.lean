/- Parts of the proof. -/
import Derived.Test.YtfemnfpbdbbacaaGreatCJn21
import Derived.Test.YtfemnfpbdbbacaaGreatCDt
set_option linter.unusedSimpArgs false
set_option linter.unusedVariables false
namespace Go.Proofs.YtfemnfpbdbbacaaGreat
section
open Go Go.RowKit
def zBDz11 := PLift.up (trivial)
theorem Y0 : type_of% zBDz11.down := zBDz11.down
theorem Ph (a b : Int) : DCalls Tryz.prog 31 [.c (.p (.int .i64 a)), .c (.p (.int .i64 b))] (fun r => r = [.c (.p (.int .i64 (if a < b then a else b)))]) := by
 refine ao Tryz.func31 rfl (by rw [Tryz.ntmps31]; simp) fun w0 => ?_;rw [Tryz.ntmps31];have dX := Y0;simp only [b7, bf, Arg.av];refine ab (dR fun K hK => ?_);(repeat refine eV ?_);refine aa (hK _ (wK [0, 1] ?_));clear hK K;refine ab ?_;refine ab (dR fun K hK => ?_);(repeat refine eV ?_);refine aa (hK _ (wK [0, 1, 7] ?_));clear hK K;refine Xf (by simp only [B0, ac, pZ, simprocAttr]; rfl) (fun hb => ?_) (fun hb => ?_)
 ·refine ab (dR fun K hK => ?_);(repeat refine eV ?_);refine aa (hK _ (wK [4] ?_));clear hK K;exact aj (am Tryz.results31 (.one (.plain _ _ rfl)) (by decide) (by rw [if_pos (by simpa using hb)]))
 ·refine ah ?_;show DW _ _ _ _ _;refine ab (dR fun K hK => ?_);(repeat refine eV ?_);refine aa (hK _ (wK [4] ?_));clear hK K;exact aj (am Tryz.results31 (.one (.plain _ _ rfl)) (by decide) (by rw [if_neg (by simpa using hb)]))
end
section
open Go Go.RowKit
def zBDlo1 := PLift.up (And.intro a7 (And.intro b4 (And.intro @if_pos.{1} (And.intro @bt @trivial))))
theorem Zd : type_of% zBDlo1.down := zBDlo1.down
set_option maxRecDepth 8000 in
set_option maxHeartbeats 0 in
theorem M1 (o : Bool) (t : TypeId) (xs : List Int) (hn : xs.length ≤ 1000000) : DCalls Tryz.prog 30 [.c (.sl o t 1 (xs.map iC))] (fun r => r = [.own false [.sl true 3 1 (xs.map iC)]]) := by
 refine ao Tryz.func30 rfl (by rw [Tryz.ntmps30]; simp) fun w0 => ?_;rw [Tryz.ntmps30];have dX := Zd;simp only [b7, bf, Arg.av, br, ch, ints, ends];refine ab (dR fun K hK => ?_);(repeat refine eV ?_);refine aa (hK _ (wK [0] ?_));clear hK K;refine ab (dR fun K hK => ?_);(repeat refine eV ?_);refine aa (hK _ (wK [2] ?_));clear hK K;exact aj (am Tryz.results30 (.one (.own _ _ _ _ rfl rfl (own1 (cm _ _)))) (by decide) rfl)
end
section
open Go Go.RowKit
def mst (a b : Int) : Int := if a > b then a else b
def ja (xs : List Int) : Int := xs.foldl (fun n k => mst n (k + 1)) 0
theorem M0 {m : Int} : ∀ (xs : List Int) (a : Int), (∀ x ∈ xs, 0 ≤ x ∧ x < m) → 0 ≤ a ∧ a ≤ m → 0 ≤ xs.foldl (fun n k => mst n (k + 1)) a ∧ xs.foldl (fun n k => mst n (k + 1)) a ≤ m
 | [], a, _, ha => ha
 | x :: xs, a, h, ha => by
  rw [List.foldl_cons];refine M0 xs _ (fun y hy => h y (by simp [hy])) ?_;have := h x (by simp);unfold mst;split <;> omega
theorem Pb {xs : List Int} {i : Nat} (h : i < xs.length) : ja (xs.take (i + 1)) = mst (ja (xs.take i)) (gi xs i + 1) := by
 unfold ja;rw [List.take_add_one, List.foldl_append, List.getElem?_eq_getElem h, bn h]; rfl
def zBDw11 := PLift.up (trivial)
theorem Tp : type_of% zBDw11.down := zBDw11.down
theorem Sm (a b : Int) : DCalls Tryz.prog 69 [.c (.p (.int .i64 a)), .c (.p (.int .i64 b))] (fun r => r = [.c (.p (.int .i64 (mst a b)))]) := by
 refine ao Tryz.func69 rfl (by rw [Tryz.ntmps69]; simp) fun w0 => ?_;rw [Tryz.ntmps69];have dX := Tp;simp only [b7, bf, Arg.av];refine ab (dR fun K hK => ?_);(repeat refine eV ?_);refine aa (hK _ (wK [0, 1] ?_));clear hK K;refine ab ?_;refine ab (dR fun K hK => ?_);(repeat refine eV ?_);refine aa (hK _ (wK [0, 1, 7] ?_));clear hK K;refine dI ?_ ?_<;>intro hb
 ·refine ab (dR fun K hK => ?_);(repeat refine eV ?_);refine aa (hK _ (wK [4] ?_));clear hK K;exact aj (am Tryz.results69 (.one (.plain _ _ rfl)) (by decide) (by rw [mst, if_pos (by simpa using hb)]))
 ·refine ah ?_;show DW _ _ _ _ _;refine ab (dR fun K hK => ?_);(repeat refine eV ?_);refine aa (hK _ (wK [4] ?_));clear hK K;exact aj (am Tryz.results69 (.one (.plain _ _ rfl)) (by decide) (by rw [mst, if_neg (by simpa using hb)]))
set_option maxRecDepth 8000 in
set_option maxHeartbeats 0 in
theorem zu (o : Bool) (tt : TypeId) (xs : List Int) (hx : ∀ x ∈ xs, 0 ≤ x ∧ x < 1000000) (hlen : xs.length < 1000000) : DCalls Tryz.prog 38 [.c (ints o tt xs)] (fun r => r = [.c (.p (.int .i64 (ja xs)))]) := by
 refine ao Tryz.func38 rfl (by rw [Tryz.ntmps38]; simp) fun w0 => ?_;rw [Tryz.ntmps38];have dX := Tp;simp only [b7, bf, Arg.av, ints];refine ab (dR fun K hK => ?_);(repeat refine eV ?_);refine aa (hK _ (wK [0] ?_));clear hK K;refine ab (dR fun K hK => ?_);(repeat refine eV ?_);refine aa (hK _ (wK [0, 3] ?_));clear hK K;refine ab ?_;refine ab (dR fun K hK => ?_)
 repeat (apply b0; (focus exact rfl); (focus (simp (disch := first | omega | (intros; contradiction)) only [ac, bd, pZ, simprocAttr , a7]; exact rfl)))
 refine aa (hK _ (wK [3, 6, 7, 8] ?_));clear hK K;refine ae ?_;refine Ni (X := Nat × Int) (fun x => x.1 ≤ xs.length ∧ x.2 = ja (xs.take x.1)) (fun x => mkE 18 [(3, .c (.p (.int .i64 x.2))), (6, .c (.sl o tt 1 (xs.map iC))), (7, .c (.p (.int .i64 xs.length))), (8, .c (.p (.int .i64 x.1)))] []) (fun x => xs.length - x.1) (0, 0) ⟨by simp, rfl⟩ (Weak.of_eq rfl) ?_;rintro ⟨i, a⟩ ⟨hi, ha⟩;dsimp only at hi ha ⊢;refine ab (dR fun K hK => ?_);(repeat refine eV ?_);refine aa (hK _ (wK [3, 6, 7, 8, 9] ?_));clear hK K;refine ab (dI (fun hb => ?_) (fun hb => ?_))
 ·refine ah ?_;show DW _ _ _ _ _;have hi1 : i < xs.length := by simpa using hb
  have hva := M0 (m := 1000000) (xs.take i) 0 (fun x hx' => hx x (List.mem_of_mem_take hx')) (by omega);rw [show (xs.take i).foldl (fun n k => mst n (k + 1)) 0 = a from ha.symm] at hva;have hxi := hx (gi xs i) (by rw [bn hi1]; exact List.getElem_mem _);refine ab (ae ?_);refine ab (dR fun K hK => ?_)
  repeat (apply b0; (focus exact rfl); (focus (simp (disch := first | omega | (intros; contradiction)) only [ac, bd, pZ, simprocAttr , a7, b4, if_pos, bi]; exact rfl)))
  refine aa (hK _ (wK [3, 5, 6, 7, 8] ?_));clear hK K;refine dR fun K hK => ?_;(repeat refine eV ?_);refine cL rfl ⟨rfl, _, rfl⟩ (by omega) (by first | exact ja8) (Sm _ _) ?_;rintro _ rfl;(repeat refine eV ?_);refine aa (hK _ (wK [3, 6, 7, 8] ?_));clear hK K;refine dR fun K hK => ?_;(repeat refine eV ?_);have dK := @bp;refine aa (hK _ ?_);clear hK K;show ∃ x, _ ∧ _ ∧ Weak _ _;refine ⟨(i + 1, mst a (gi xs i + 1)), ?_, ?_, a6 [3, 6, 7, 8]⟩
  ·refine ⟨hi1, ?_⟩;rw [Pb hi1, ← ha]
  ·dsimp only; omega
 ·have hi2 : i = xs.length := by
   have : ¬ i < xs.length := by simpa using hb
   omega
  refine an ?_;refine wK [3] ?_;refine ab (dR fun K hK => ?_);(repeat refine eV ?_);refine aa (hK _ (wK [2] ?_));clear hK K;exact aj (am Tryz.results38 (.one (.plain _ _ rfl)) (by decide) (by rw [ha, hi2, List.take_length]))
end
end Go.Proofs.YtfemnfpbdbbacaaGreat
