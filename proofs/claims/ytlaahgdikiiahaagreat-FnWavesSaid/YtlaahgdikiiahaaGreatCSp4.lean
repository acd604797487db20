/- The reference's depths of a tree. -/
import Derived.Test.YtlaahgdikiiahaaGreatCJn15
import Derived.Test.YtlaahgdikiiahaaGreatCJn14
import Derived.Test.YtlaahgdikiiahaaGreatCJn8
set_option linter.unusedSimpArgs false
set_option linter.unusedVariables false
namespace Go.Proofs.YtlaahgdikiiahaaGreat
open Go.RowKit
attribute [local go_sem] BW.cell BW.frozen
def RetTree (N : Net) (ps : List Int) (w : World) (e : Ending) (w' : World) : Prop :=
 Below w.heap.size w w' ∧ ((∃ (r : Nat) (ds : List Int) (v : Value), TreeAt N ps r ds ∧ e = .returned (.tuple #[.int .i64 r, v, .bool true]) ∧ OwnI w' w.heap.size v ds) ∨
  ((¬ ∃ r ds, TreeAt N ps r ds) ∧ e = .returned (.tuple #[.int .i64 0, .slice none 0 0, .bool false])))
def RootUpto (N : Net) (ps : List Int) (k : Nat) (R : Int) : Prop :=
 (R = -1 ∧ ∀ j, j < k → gi ps j ≠ -1 ∧ inB (gi ps j) 0 (((gl N.ends j).length : Int) - 1) = true) ∨
 (∃ r : Nat, R = r ∧ r < k ∧ gi ps r = -1 ∧ ∀ j, j < k → nodeOk N ps r j)
theorem noTree_port {N : Net} {ps : List Int} {k : Nat} (hk : k < ps.length) (h1 : gi ps k ≠ -1) (h2 : inB (gi ps k) 0 (((gl N.ends k).length : Int) - 1) = false) : ¬ ∃ r ds, TreeAt N ps r ds := by
 rintro ⟨r, ds, h⟩
 have := (h.2.2.2.1 k hk).2 h1
 rw [h2] at this
 cases this
theorem noTree_two {N : Net} {ps : List Int} {k r : Nat} (hk : k < ps.length) (h1 : gi ps k = -1) (hr : r < k) (h2 : gi ps r = -1) : ¬ ∃ r ds, TreeAt N ps r ds := by
 rintro ⟨q, ds, h⟩
 have e1 := (h.2.2.2.1 k hk).1 h1
 have e2 := (h.2.2.2.1 r (by omega)).1 h2
 omega
theorem noTree_none {N : Net} {ps : List Int} (h1 : ∀ j, j < ps.length → gi ps j ≠ -1) : ¬ ∃ r ds, TreeAt N ps r ds := by
 rintro ⟨q, ds, h⟩
 exact h1 q h.2.1 h.2.2.1
theorem noTree_deep {N : Net} {ps : List Int} {r v : Nat} (hr : r < ps.length) (h0 : gi ps r = -1) (hv : v < ps.length) (h1 : ∀ i, i ≤ ps.length → up N ps i v ≠ r) : ¬ ∃ r ds, TreeAt N ps r ds := by
 rintro ⟨q, ds, h⟩
 have e2 := (h.2.2.2.1 r hr).1 h0
 subst e2
 obtain ⟨k, _, hk⟩ := h.2.2.2.2.2 v hv
 exact h1 k hk.1 hk.2.1
set_option maxRecDepth 100000 in
set_option maxHeartbeats 2000000 in
theorem biDepths_any {S S' : Nat → Prop} (v u : Value) (N : Net) (ps : List Int) (w : World) (h : NetR w S v N) (hp : IntsR w S' u ps) (hg : goodB N = true) :
 Calls Tryz.prog 94 #[v, u] w (RetTree N ps w) := by
 obtain ⟨hg1, hg2⟩ := good_len hg
 have hpb := hp.bound
 obtain ⟨ve, vi, vn, rfl, he, hi, hn⟩ := h
 obtain ⟨A1, c1, rfl, -, -, -⟩ := hi
 obtain ⟨A2, c2, rfl, -, -, -⟩ := hn
 obtain ⟨A, c, rfl, hnc, hm, hx⟩ := he
 obtain ⟨A3, c3, rfl, hnc3, hm3, hx3⟩ := hp
 unfold maxLen at hm hm3
 have hb0 : ∀ o1, Below w.heap.size w (w.alloc o1) := fun o1 => (Below.refl _ _).alloc (Nat.le_refl _) _
 have HB0 := Lib.hid hb0
 have HX := Lib.hid hx
 have HX3 := Lib.hid hx3
 have HG := Lib.hid hg
 clear hx hx3 hb0 hg
 by_cases hl : ps.length = N.ends.length
 case neg =>
  have e1 : (((ps.length : Nat) : Int) != ((N.ends.length : Nat) : Int)) = true := by simp; omega
  have HL := Lib.hid hl
  clear hl
  go_enter Tryz.func94, Tryz.ntmps94
  go_wp2
  go_ret3
  exact ⟨HB0.out _, .inr ⟨fun ⟨r, ds, h⟩ => HL.out h.1, rfl⟩⟩
 have e1 : (((ps.length : Nat) : Int) != ((N.ends.length : Nat) : Int)) = false := by simp [hl]
 have HL := Lib.hid hl
 have hl1 : ps.length ≤ N.ends.length := by omega
 have hl2 : N.ends.length ≤ ps.length := by omega
 clear hl
 obtain ⟨b, off, rfl, -, hc⟩ := HX.out (by omega)
 obtain ⟨b3, off3, rfl, -, hc3⟩ := HX3.out (by omega)
 have HC := Lib.hid hc
 have HC3 := Lib.hid hc3
 clear hc hc3 HX HX3
 go_enter Tryz.func94, Tryz.ntmps94
 go_wp2
 have hzb : b3 < w.heap.size := lt_of_cell (HC3.out 0 (by omega))
 go_loop [7, 22] (fun R i => ∃ (k : Nat) (q : Int), k ≤ ps.length ∧ i = .int .i64 k ∧ R = .int .i64 q ∧ RootUpto N ps k q) (fun _ i => ps.length - (intOf i).toNat)
 case atStart => exact ⟨0, -1, Nat.zero_le _, rfl, rfl, .inl ⟨rfl, fun j hj => absurd hj (Nat.not_lt_zero _)⟩⟩
 case round =>
  obtain ⟨k, q, hk, rfl, rfl, hq⟩ := hrel
  by_cases hlt : k < ps.length
  ·have hcell := HC3.out k hlt
   by_cases h1 : gi ps k = -1
   ·have e2 : (gi ps k == -1) = true := by simp [h1]
    have e3 : (gi ps k != -1) = false := by simp [h1]
    rcases hq with ⟨rfl, hj⟩ | ⟨r, rfl, hr1, hr2, hj⟩
    ·have HQ : Hid (RootUpto N ps (k + 1) k) := .inr ⟨k, rfl, by omega, h1, fun j hj' => by
      by_cases h2 : j = k
      ·subst h2; exact ⟨fun _ => rfl, fun h => absurd h1 h⟩
      ·exact ⟨fun h => absurd h (hj j (by omega)).1, fun _ => (hj j (by omega)).2⟩⟩
     clear hj h1
     go_wp2
     go_round
     case rel => exact ⟨k + 1, k, by omega, by go_num, rfl, HQ.out⟩
     case measure => simp [intOf]; omega
    ·have HT := Lib.hid (noTree_two (N := N) hlt h1 hr1 hr2)
     clear hj h1 hr2
     go_wp2
     go_ret3
     exact ⟨HB0.out _, .inr ⟨HT.out, rfl⟩⟩
   ·have e2 : (gi ps k == -1) = false := by simp [h1]
    have e3 : (gi ps k != -1) = true := by simp [h1]
    obtain ⟨u, hu, A', c', rfl, hn', hm', -⟩ := HC.out k (by omega)
    unfold maxLen at hm'
    have hzb2 : b < w.heap.size := lt_of_cell hu
    cases h2 : inB (gi ps k) 0 (((gl N.ends k).length : Int) - 1)
    ·have HT := Lib.hid (noTree_port hlt h1 h2)
     have H2 := Lib.hid h2
     clear h1 h2 hq
     go_wp2_with (go_at_call 74; refine (l1In_any _ _ _ _).mono ?_; rintro e w1 ⟨rfl, rfl⟩; rw [H2.out])
     go_ret3
     exact ⟨HB0.out _, .inr ⟨HT.out, rfl⟩⟩
    ·have HQ : Hid (RootUpto N ps (k + 1) q) := by
      rcases hq with ⟨rfl, hj⟩ | ⟨r, rfl, hr1, hr2, hj⟩
      ·refine .inl ⟨rfl, fun j hj' => ?_⟩
       by_cases h3 : j = k
       ·subst h3; exact ⟨h1, h2⟩
       ·exact hj j (by omega)
      ·refine .inr ⟨r, rfl, by omega, hr2, fun j hj' => ?_⟩
       by_cases h3 : j = k
       ·subst h3; exact ⟨fun h => absurd h h1, fun _ => h2⟩
       ·exact hj j (by omega)
     have H2 := Lib.hid h2
     clear h1 h2 hq
     go_wp2_with (go_at_call 74; refine (l1In_any _ _ _ _).mono ?_; rintro e w1 ⟨rfl, rfl⟩; rw [H2.out])
     go_round
     case rel => exact ⟨k + 1, q, by omega, by go_num, rfl, HQ.out⟩
     case measure => simp [intOf]; omega
  ·obtain rfl : k = ps.length := by omega
   rcases hq with ⟨rfl, hj⟩ | ⟨r, rfl, hr1, hr2, hj⟩
   ·have HT := Lib.hid (noTree_none (N := N) fun j hj' => (hj j hj').1)
    clear hj
    go_wp2
    go_ret3
    exact ⟨HB0.out _, .inr ⟨HT.out, rfl⟩⟩
   ·have HJ := Lib.hid hj
    have HR2 := Lib.hid hr2
    clear hj hr2
    go_wp2
    go_loopw [10, 57] (fun d i wr => ∃ (k : Nat) (ds : List Int) (Ad : Option Addr) (cd : Nat), k ≤ ps.length ∧ i = .int .i64 k ∧ d = .slice Ad k cd ∧ ds.length = k ∧ OwnI wr (w.heap.size + 1) (.slice Ad k cd) ds ∧
     (∀ v, v < k → ∃ q : Nat, gi ds v = q ∧ depthIs N ps r v q) ∧ Blk wr w.heap.size 27 #[.slice (some ⟨b, off, none⟩) N.ends.length c, .slice A1 N.ids.length c1, .slice A2 N.inputs.length c2] ∧ Below w.heap.size w wr ∧ w.heap.size + 1 ≤ wr.heap.size)
     (fun _ i _ => ps.length - (intOf i).toNat)
    case atStart => exact ⟨0, [], none, 0, Nat.zero_le _, rfl, rfl, rfl, OwnI.nil, fun v hv => absurd hv (Nat.not_lt_zero _), Blk.new _ _ _, HB0.out _, by simp⟩
    case round =>
     obtain ⟨wo, rfl⟩ : ∃ wo : World, wo = wr := ⟨_, rfl⟩
     obtain ⟨k, ds, Ad, cd, hk, rfl, rfl, hdl, hown, hds, hblk, hbel, hsz⟩ := hrel
     have HOW := Lib.hid hown
     have HDS := Lib.hid hds
     have HDL := Lib.hid hdl
     have HBL := Lib.hid hblk
     have HBE := Lib.hid hbel
     clear hown hds hblk hbel hdl
     by_cases hlt : k < ps.length
     ·go_wp2
      go_loopw [12, 13] (fun q x wr2 => ∃ m y nd : Nat, q = .int .i64 m ∧ x = .int .i64 y ∧ m ≤ ps.length + 1 ∧ y = up N ps m k ∧ (∀ i, i < m → up N ps i k ≠ r) ∧ wr2 = wo.drewN nd)
       (fun q _ _ => ps.length + 1 - (intOf q).toNat)
      case atStart => exact ⟨0, k, 0, rfl, rfl, by omega, rfl, fun i hi => absurd hi (Nat.not_lt_zero _), rfl⟩
      case round =>
       obtain ⟨m, y, nd, rfl, rfl, hm, hy, hup, rfl⟩ := hrel
       have HY := Lib.hid hy
       have HUP := Lib.hid hup
       clear hy hup
       have hylt : y < ps.length := by
        rw [HY.out]; exact up_lt HG.out HL.out HJ.out hlt m HUP.out
       by_cases hyr : y = r
       ·have e4 : (((y : Nat) : Int) != ((r : Nat) : Int)) = false := by simp [hyr]
        by_cases hml : m ≤ ps.length
        ·have HD : Hid (∀ v, v < k + 1 → ∃ q : Nat, gi (ds ++ [(m : Int)]) v = q ∧ depthIs N ps r v q) := by
          intro v hv
          by_cases h3 : v = k
          ·subst h3
           refine ⟨m, ?_, hml, by rw [← HY.out]; exact hyr, HUP.out⟩
           rw [← HDL.out]; simp [gi]
          ·obtain ⟨q, e, hq⟩ := HDS.out v (by omega)
           refine ⟨q, ?_, hq⟩
           rw [← e]; simp only [gi, List.getD_eq_getElem?_getD]; rw [List.getElem?_append_left (by have := HDL.out; omega)]
         have hkl : k ≤ 40 := by omega
         clear hyr
         go_wp2_with (at_builtin; refine wpList_append_int _ rfl (.tmp 88) (.tmp 90) rfl (w.heap.size + 1) _ ds rfl (HOW.out.alloc _) _ (m : Int) rfl (cell_one _ _ _) (by have := HDL.out; omega) (by simp; omega) ?_)
         intro A5 c5 w5 ho5 hg5
         have hO := (HOW.out.drewN nd).alloc (Obj.cells #[Value.int IntKind.i64 (m : Int)] 3)
         have HB5 := Lib.hid (below_grown (B := w.heap.size) ((below_drewN HBE.out nd).alloc (by simp; omega) _) (hO.mono (by omega)) hg5 (by simp; omega))
         have HK5 := Lib.hid (Blk.grown (HBL.out.alloc (w := wo.drewN nd) _) hg5 (OwnI.ne hO (by omega)))
         have hs5 := hg5.size
         simp only [World.size_alloc] at hs5
         have hs6 : w.heap.size + 1 ≤ w5.heap.size := by have : (wo.drewN nd).heap.size = wo.heap.size := rfl; omega
         rw [HDL.out] at ho5 ⊢
         have HO5 := Lib.hid ho5
         clear ho5 hg5 hO hs5
         go_wp2_with fail
         go_roundw
         case rel => exact ⟨k + 1, ds ++ [(m : Int)], A5, c5, by omega, by go_num, rfl, by simp [HDL.out], HO5.out, HD.out, HK5.out, HB5.out, hs6⟩
         case measure => simp [intOf]; omega
        ·have HT := Lib.hid (noTree_deep (N := N) hr1 HR2.out hlt fun i hi => HUP.out i (by omega))
         clear hyr
         go_wp2
         go_ret3
         exact ⟨below_drewN HBE.out _, .inr ⟨HT.out, rfl⟩⟩
       ·have e4 : (((y : Nat) : Int) != ((r : Nat) : Int)) = true := by simp; omega
        by_cases hml : m ≤ ps.length
        ·obtain ⟨hp1, hp2, hp3, hp4⟩ := par_lt HG.out HL.out hylt (HJ.out y hylt) hyr
         obtain ⟨u, hu, A4, c4, rfl, hn4, hm4, hc4⟩ := HC.out y (by omega)
         unfold maxLen at hm4
         obtain ⟨b4, off4, rfl, -, hc4'⟩ := hc4 (by omega)
         have hq1 := (hc4' (gi ps y).toNat hp4).1
         rw [hp2] at hq1
         have hc5 := HC3.out y hylt
         obtain ⟨p, hpe⟩ : ∃ p, p = gi ps y := ⟨_, rfl⟩
         rw [← hpe] at hq1 hc5 hp3 hp4
         have i1 : wo.cell? ⟨b, off + y, none⟩ = some (.slice (some ⟨b4, off4, none⟩) (gl N.ends y).length c4) := by rw [HBE.out.cell (by exact lt_of_cell hu)]; exact hu
         have i2 : wo.cell? ⟨b3, off3 + y, none⟩ = some (.int .i64 p) := by rw [HBE.out.cell (by exact lt_of_cell hc5)]; exact hc5
         have i3 : wo.cell? ⟨b4, off4 + p.toNat * 2, none⟩ = some (.int .i64 (par N ps y : Nat)) := by rw [HBE.out.cell (by exact lt_of_cell hq1)]; exact hq1
         have i4 := HBL.out.cell
         have j1 : (0 : Int) ≤ (y : Int) := by omega
         have j2 : (y : Int) < (N.ends.length : Int) := by omega
         have j3 : (y : Int) < (ps.length : Int) := by omega
         have j4 : p < ((gl N.ends y).length : Int) := by omega
         clear hc4 hc4' hq1 hc5 hpe hp2 hu
         go_wp2
         go_quiet (fail)
         go_wp2
         go_roundw
         case rel =>
          refine ⟨m + 1, par N ps y, _, by go_num, rfl, by omega, by rw [HY.out]; rfl, fun i hi => ?_, rfl⟩
          by_cases h3 : i = m
          ·subst h3; rw [← HY.out]; exact hyr
          ·exact HUP.out i (by omega)
         case measure => simp [intOf]; omega
        ·have HT := Lib.hid (noTree_deep (N := N) hr1 HR2.out hlt fun i hi => HUP.out i (by omega))
         go_wp2
         go_ret3
         exact ⟨below_drewN HBE.out _, .inr ⟨HT.out, rfl⟩⟩
     ·go_wp2
      go_ret3
      refine ⟨HBE.out, .inl ⟨r, ds, _, ⟨HL.out, hr1, HR2.out, HJ.out, by rw [HDL.out]; omega, fun v hv => HDS.out v (by omega)⟩, rfl, HOW.out.mono (by omega)⟩⟩
end Go.Proofs.YtlaahgdikiiahaaGreat
