/- Parts of the proof. -/
import Derived.Test.YtfemnfpbdbbacaaGreatCIm4
import Derived.Test.YtfemnfpbdbbacaaGreatCJn13
import Derived.Test.YtfemnfpbdbbacaaGreatCJn21
import Derived.Test.YtfemnfpbdbbacaaGreatCShelf
import Derived.Test.YtfemnfpbdbbacaaGreatCSp2
import Derived.Test.YtfemnfpbdbbacaaGreatCJn8
import Derived.Test.YtfemnfpbdbbacaaGreatCDcv
import Derived.Test.YtfemnfpbdbbacaaGreatCJn23
import Derived.Test.YtfemnfpbdbbacaaGreatCJn25
import Derived.Test.YtfemnfpbdbbacaaGreatCJn29
import Derived.Test.YtfemnfpbdbbacaaGreatCJn6
import Derived.Test.YtfemnfpbdbbacaaGreatCJn31
import Derived.Deep.DeepCutAuto
import Derived.RegionTactic
import Derived.ChangeAlike
import Derived.Lib.BitFns
import Derived.StillTailTactics
import Derived.Test.YtfemnfpbdbbacaaGreatCJn30
import Derived.Test.YtfemnfpbdbbacaaGreatCJn27
set_option linter.unusedSimpArgs false
set_option linter.unusedVariables false
namespace Go.Proofs.YtfemnfpbdbbacaaGreat
section
open Go.RowKit
attribute [local go_sem] BW.cell BW.frozen
open Go.BigFrame
end
section
open Go Go.RowKit
theorem Bc : ak Tryz.prog 32 = true := by kernel_rfl
theorem Ub (o : Bool) (tt : TypeId) (xs : List Int) (hp : 0 < xs.length) : DCalls Tryz.prog 32 [.c (ints o tt xs)] (fun r => r = [.c (.p (.int .i64 (Lib.maxOf xs)))]) := nc fun w vs h1 h2 => by
 obtain ⟨u, rfl, g1⟩ := yh h1 h2;have h := lz g1;have hb := h.bound;obtain ⟨A, c, rfl, hnc, hm, hx⟩ := h;obtain ⟨b, off, rfl, -, hc⟩ := hx hp;refine (Tryz.slices_Max_int b off xs.length c xs w hp (Nat.le_refl _) hb hc).mono ?_;rintro e w1 ⟨rfl, rfl⟩;exact ⟨by rw [List.take_length], Below.refl _ _⟩
end
section
open Go Go.RowKit
theorem eg (f : NF) (N : Net) (hi : N.ids.length ≤ 2097152) : DCalls Tryz.prog 21 [.agg (br f N)] (fun r => r = [.c (.p (.bool (bb N)))]) := nc fun w vs h1 h2 => by
 obtain ⟨u, rfl, g1⟩ := yh h1 h2;exact C1 u N w (T3 g1) hi
theorem uf (f : NF) (N : Net) : DCalls Tryz.prog 28 [.agg (br f N)] (fun r => r = [.c (.p (.bool (bb N)))]) := nc fun w vs h1 h2 => by
 obtain ⟨u, rfl, g1⟩ := yh h1 h2;exact Kd u N w (T3 g1)
end
section
open Go Go.RowKit
theorem Sg (xs : List Int) (hp : 0 < xs.length) (h0 : ∀ x ∈ xs, 0 ≤ x) : Lib.maxOf xs + 1 = ja xs := by
 have key : ∀ (zs : List Int) (a : Int), zs.foldl max a + 1 = zs.foldl (fun n k => mst n (k + 1)) (a + 1) := by
  intro zs
  induction zs with
  | nil => intro a; rfl
  | cons z zs ih =>
   intro a;simp only [List.foldl_cons];rw [ih]
   congr 1
   unfold mst;split <;> omega
 match xs, hp with
 | z :: zs, _ =>
  have hm : Lib.maxOf (z :: zs) = zs.foldl max z := by simp [Lib.maxOf]
  rw [hm, key];unfold ja;simp only [List.foldl_cons]
  congr 1
  have := h0 z List.mem_cons_self;unfold mst;split <;> omega
theorem Yg (xs : List Int) (hp : 0 < xs.length) (m : Int) (h0 : ∀ x ∈ xs, 0 ≤ x ∧ x < m) : 0 ≤ Lib.maxOf xs ∧ Lib.maxOf xs < m := by
 have key : ∀ (zs : List Int) (a : Int), (0 ≤ a ∧ a < m) → (∀ x ∈ zs, 0 ≤ x ∧ x < m) → 0 ≤ zs.foldl max a ∧ zs.foldl max a < m := by
  intro zs
  induction zs with
  | nil => intro a h _; exact h
  | cons z zs ih =>
   intro a h h1;have := h1 z List.mem_cons_self;exact ih _ (by omega) fun x hx => h1 x (List.mem_cons_of_mem _ hx)
 match xs, hp with
 | z :: zs, _ =>
  have hm : Lib.maxOf (z :: zs) = zs.foldl max z := by simp [Lib.maxOf]
  rw [hm];exact key zs z (h0 z List.mem_cons_self) fun x hx => h0 x (List.mem_cons_of_mem _ hx)
def zBDpi1 := PLift.up (And.intro ap (And.intro a7 (And.intro b4 (And.intro bl (And.intro @if_pos.{1} (And.intro @netO.eq_1 (And.intro @bt (And.intro @bi @trivial))))))))
theorem Za : type_of% zBDpi1.down := zBDpi1.down
set_option maxRecDepth 8000 in
set_option maxHeartbeats 0 in
theorem j5 (o : Bool) (tt : TypeId) (xs : List Int) (hp : 0 < xs.length) (h0 : ∀ x ∈ xs, 0 ≤ x ∧ x < 1000000) : DCalls Tryz.prog 37 [.c (ints o tt xs)] (fun r => r = [.c (.p (.int .i64 (ja xs)))]) := by
 have hm := Yg xs hp _ h0;rw [← Sg xs hp fun x hx => (h0 x hx).1];refine ao Tryz.func37 rfl (by rw [Tryz.ntmps37]; simp) fun w0 => ?_;rw [Tryz.ntmps37];have dX := Za;simp only [b7, bf, Arg.av, ints];refine ab (dR fun K hK => ?_);(repeat refine eV ?_);refine aa (hK _ (wK [0] ?_));clear hK K;refine ab (dR fun K hK => ?_);(repeat refine eV ?_);refine cL rfl ⟨rfl, _, rfl⟩ (by omega) (by first | exact Bc) (Ub o tt xs hp) ?_;rintro _ rfl;(repeat refine eV ?_);refine aa (hK _ (wK [2] ?_));clear hK K;exact aj (am Tryz.results37 (.one (.plain _ _ rfl)) (by decide) rfl)
end
section
open Go.RowKit
attribute [local go_sem] BW.cell BW.frozen
open Go.BigFrame
end
section
open Go Go.RowKit
theorem Gq {N : Net} (h : Tame N) (hl : N.ends.length ≤ 30) : Tame (nf N N.ends.length) :=
 ⟨by show (fe N.ends N.ends.length 0).length ≤ 64; rw [gb]; omega, fun a => by
  show (gl (fe N.ends N.ends.length 0) a).length ≤ 600;have key : ∀ b, (gl N.ends b).length ≤ 600 := h.deg;rw [show gl (fe N.ends N.ends.length 0) a = (fe N.ends N.ends.length 0).getD a [] from rfl];unfold fe;rw [List.getD_eq_getElem?_getD, List.getElem?_map]
  cases hr : (List.range (2 * N.ends.length))[a]? with
  | none => simp
  | some b =>
   simp only [Option.map_some, Option.getD_some];split
   ·rw [List.length_map, List.length_take];have := key b; omega
   ·rw [List.length_take]
    have := key (b - N.ends.length); omega, by simp [nf], by show (F1 N N.ends.length).length ≤ 64; rw [By]; omega⟩
end
end Go.Proofs.YtfemnfpbdbbacaaGreat
