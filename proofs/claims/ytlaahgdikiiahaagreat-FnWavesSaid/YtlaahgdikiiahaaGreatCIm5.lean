/- The program's depths of a tree. -/
import Derived.Test.YtlaahgdikiiahaaGreatCIm4
import Derived.Test.YtlaahgdikiiahaaGreatCSp4
set_option linter.unusedSimpArgs false
set_option linter.unusedVariables false
namespace Go.Proofs.YtlaahgdikiiahaaGreat
open Go.RowKit
attribute [local go_sem] BW.cell BW.frozen
open Go.BigFrame
set_option maxHeartbeats 400000 in
theorem Index_int {S : Nat → Prop} (v : Value) (xs : List Int) (x : Int) (w : World) (h : IntsR w S v xs) :
 Calls Tryz.prog 84 #[v, .int .i64 x] w (RetQ w (.int .i64 (firstI (fun y => x == y) xs))) := by
 have hb := h.bound
 obtain ⟨A, c, rfl, hnc, hm, hx⟩ := h
 have HX := Lib.hid hx
 clear hx
 go_enter Tryz.func84, Tryz.ntmps84
 go_wp2
 go_loop [8] (fun i => ∃ k : Nat, k ≤ xs.length ∧ i = .int .i64 k ∧ ∀ j, j < k → (x == gi xs j) = false) (fun i => xs.length - (intOf i).toNat)
 case atStart => exact ⟨0, Nat.zero_le _, rfl, fun j hj => absurd hj (Nat.not_lt_zero _)⟩
 case round =>
  obtain ⟨k, hk, rfl, hs⟩ := hrel
  have HS := Lib.hid hs
  clear hs
  by_cases hlt : k < xs.length
  ·obtain ⟨b, off, rfl, -, hc⟩ := HX.out (by omega)
   have h1 := hc k hlt
   clear hc
   cases he : (x == gi xs k)
   ·have HE := Lib.hid he
    go_wp2
    go_round
    case rel =>
     refine ⟨k + 1, by omega, by go_num, fun j hj => ?_⟩
     by_cases h1 : j = k
     ·subst h1; exact HE.out
     ·exact HS.out j (by omega)
    case measure => simp [intOf]; omega
   ·have HF := Lib.hid (firstI_of (p := fun y => x == y) hlt HS.out he)
    go_wp2
    go_ret
    exact ⟨by rw [HF.out]; rfl, rfl⟩
  ·have HF := Lib.hid (firstI_none (p := fun y => x == y) (xs := xs) fun j hj => HS.out j (by omega))
   go_wp2
   go_ret
   exact ⟨by rw [HF.out.1]; rfl, rfl⟩
theorem firstRoot (ps : List Int) : (firstI (fun y => -1 == y) ps = -1 ∧ ∀ j, j < ps.length → gi ps j ≠ -1) ∨
 (∃ r : Nat, firstI (fun y => -1 == y) ps = r ∧ r < ps.length ∧ gi ps r = -1) := by
 by_cases h : ∃ k, k < ps.length ∧ gi ps k = -1
 ·obtain ⟨k, hk, he⟩ := h
  have hany : ps.any (fun y => -1 == y) = true := by
   rw [List.any_eq_true]; exact ⟨ps[k], List.getElem_mem hk, by rw [← gi_lt hk, he]; rfl⟩
  have hlt : ps.findIdx (fun y => -1 == y) < ps.length := List.findIdx_lt_length.2 (by simpa using hany)
  refine .inr ⟨ps.findIdx (fun y => -1 == y), by simp [firstI, hany], hlt, ?_⟩
  have := List.findIdx_getElem (w := hlt)
  rw [gi_lt hlt]
  simp only [beq_iff_eq] at this
  exact this.symm
 ·refine .inl ⟨(firstI_none fun j hj => ?_).1, fun j hj e => h ⟨j, hj, e⟩⟩
  have : gi ps j ≠ -1 := fun e => h ⟨j, hj, e⟩
  simp only [beq_eq_false_iff_ne]
  exact fun e => this e.symm
set_option maxRecDepth 100000 in
set_option maxHeartbeats 2000000 in
theorem treeDepths_any {S S' : Nat → Prop} (v u : Value) (N : Net) (ps : List Int) (w : World) (h : NetR w S v N) (hp : IntsR w S' u ps) (hg : goodB N = true) :
 Calls Tryz.prog 39 #[v, u] w (RetTree N ps w) := by
 obtain ⟨hg1, hg2⟩ := good_len hg
 have hpb := hp.bound
 have HNR := Lib.hid h
 have HPR := Lib.hid hp
 obtain ⟨ve, vi, vn, rfl, he, hi, hn⟩ := h
 obtain ⟨A1, c1, rfl, -, -, -⟩ := hi
 obtain ⟨A2, c2, rfl, -, -, -⟩ := hn
 obtain ⟨A, c, rfl, hnc, hm, hx⟩ := he
 obtain ⟨A3, c3, rfl, hnc3, hm3, hx3⟩ := hp
 unfold maxLen at hm hm3
 have hb0 : ∀ o1, Below w.heap.size w (w.alloc o1) := fun o1 => (Below.refl _ _).alloc (Nat.le_refl _) _
 have HB0 := Lib.hid hb0
 have HX := Lib.hid hx
 have HX3 := Lib.hid hx3
 have HG := Lib.hid hg
 clear hx hx3 hb0 hg
 by_cases hl : ps.length = N.ends.length
 case neg =>
  have e1 : (((ps.length : Nat) : Int) != ((N.ends.length : Nat) : Int)) = true := by simp; omega
  have HL := Lib.hid hl
  clear hl
  go_enter Tryz.func39, Tryz.ntmps39
  go_wp2
  go_ret3
  exact ⟨HB0.out _, .inr ⟨fun ⟨r, ds, h⟩ => HL.out h.1, rfl⟩⟩
 have e1 : (((ps.length : Nat) : Int) != ((N.ends.length : Nat) : Int)) = false := by simp [hl]
 have HL := Lib.hid hl
 have hl1 : ps.length ≤ N.ends.length := by omega
 have hl2 : N.ends.length ≤ ps.length := by omega
 clear hl
 obtain ⟨b, off, rfl, -, hc⟩ := HX.out (by omega)
 obtain ⟨b3, off3, rfl, -, hc3⟩ := HX3.out (by omega)
 have HC := Lib.hid hc
 have HC3 := Lib.hid hc3
 clear hc hc3 HX HX3
 have hroot := firstRoot ps
 have CI := Lib.hid (fun (W : World) (hW : Below w.heap.size w W) => Index_int _ ps (-1) W (HPR.out.below hW))
 obtain ⟨q, hq⟩ : ∃ q, q = firstI (fun y => -1 == y) ps := ⟨_, rfl⟩
 rw [← hq] at hroot CI
 clear hq
 have HRT := Lib.hid hroot
 clear hroot
 go_enter Tryz.func39, Tryz.ntmps39
 go_wp2_with (go_at_call 84; refine (CI.out _ (HB0.out _)).mono ?_; rintro e w1 ⟨rfl, rfl⟩)
 clear CI
 go_loopw [23] (fun i wr => ∃ k : Nat, k ≤ ps.length ∧ i = .int .i64 k ∧ (∀ j, j < k → (gi ps j = -1 → (j : Int) = q) ∧ (gi ps j ≠ -1 → inB (gi ps j) 0 (((gl N.ends j).length : Int) - 1) = true)) ∧
  Blk wr w.heap.size 27 #[.slice (some ⟨b, off, none⟩) N.ends.length c, .slice A1 N.ids.length c1, .slice A2 N.inputs.length c2] ∧ Below w.heap.size w wr) (fun i _ => ps.length - (intOf i).toNat)
 case atStart => exact ⟨0, Nat.zero_le _, rfl, fun j hj => absurd hj (Nat.not_lt_zero _), Blk.new _ _ _, HB0.out _⟩
 case round =>
  obtain ⟨k, hk, rfl, hj, hblk, hbel⟩ := hrel
  have HJ := Lib.hid hj
  have HBL := Lib.hid hblk
  have HBE := Lib.hid hbel
  clear hj hblk hbel
  by_cases hlt : k < ps.length
  ·have hc5 := HC3.out k hlt
   have hcell : wr.cell? ⟨b3, off3 + k, none⟩ = some (.int .i64 (gi ps k)) := by rw [HBE.out.cell (by exact lt_of_cell hc5)]; exact hc5
   clear hc5
   by_cases h1 : gi ps k = -1
   ·have e2 : (gi ps k == -1) = true := by simp [h1]
    have e3 : (gi ps k != -1) = false := by simp [h1]
    by_cases h2 : (k : Int) = q
    ·have e4 : ((k : Int) != q) = false := by simp [h2]
     have H1 := Lib.hid (And.intro h1 h2)
     clear h1 h2
     go_wp2
     go_roundw
     case rel =>
      refine ⟨k + 1, by omega, by go_num, fun j hj => ?_, HBL.out, HBE.out⟩
      by_cases h3 : j = k
      ·subst h3; exact ⟨fun _ => H1.out.2, fun h => absurd H1.out.1 h⟩
      ·exact HJ.out j (by omega)
     case measure => simp [intOf]; omega
    ·have e4 : ((k : Int) != q) = true := by simp [h2]
     have HT : Hid (¬ ∃ r ds, TreeAt N ps r ds) := by
      rintro ⟨r', ds, ht⟩
      rcases HRT.out with ⟨_, h3⟩ | ⟨r, h3, h4, h5⟩
      ·exact h3 k hlt h1
      ·have a1 := (ht.2.2.2.1 k hlt).1 h1
       have a2 := (ht.2.2.2.1 r h4).1 h5
       omega
     clear h1 h2
     go_wp2
     go_ret3
     exact ⟨HBE.out, .inr ⟨HT.out, rfl⟩⟩
   ·have e2 : (gi ps k == -1) = false := by simp [h1]
    have e3 : (gi ps k != -1) = true := by simp [h1]
    have CP := Lib.hid (hasPort_any _ N k (gi ps k) wr (HNR.out.below HBE.out))
    have hpb : portB N k (gi ps k) = inB (gi ps k) 0 (((gl N.ends k).length : Int) - 1) := by
     have : inB (k : Int) 0 ((N.ends.length : Int) - 1) = true := inB_iff.2 (by omega)
     simp only [portB, this, Bool.true_and, Int.toNat_natCast]
    rw [hpb] at CP
    clear hpb
    have i4 := HBL.out.cell
    cases h2 : inB (gi ps k) 0 (((gl N.ends k).length : Int) - 1)
    ·have HT := Lib.hid (noTree_port hlt h1 h2)
     have H2 := Lib.hid h2
     clear h1 h2
     go_wp2_with (go_at_call 79; refine CP.out.mono ?_; rintro e w1 ⟨rfl, hb1⟩; rw [H2.out]; have HB1 := Lib.hid (Below.thenB HBE.out hb1 HBE.out.size); clear hb1)
     go_ret3
     exact ⟨HB1.out, .inr ⟨HT.out, rfl⟩⟩
    ·have H2 := Lib.hid (And.intro h1 h2)
     clear h1 h2
     go_wp2_with (go_at_call 79; refine CP.out.mono ?_; rintro e w1 ⟨rfl, hb1⟩; rw [H2.out.2]; have HB1 := Lib.hid (Below.thenB HBE.out hb1 HBE.out.size); have HK1 := Lib.hid (HBL.out.below hb1); clear hb1)
     go_roundw
     case rel =>
      refine ⟨k + 1, by omega, by go_num, fun j hj => ?_, HK1.out, HB1.out⟩
      by_cases h3 : j = k
      ·subst h3; exact ⟨fun h => absurd h H2.out.1, fun _ => H2.out.2⟩
      ·exact HJ.out j (by omega)
     case measure => simp [intOf]; omega
  ·obtain rfl : k = ps.length := by omega
   rcases HRT.out with ⟨rfl, h3⟩ | ⟨r, rfl, hr1, hr2⟩
   ·have HT := Lib.hid (noTree_none (N := N) h3)
    clear h3
    go_wp2
    go_ret3
    exact ⟨HBE.out, .inr ⟨HT.out, rfl⟩⟩
   ·have HJ2 : Hid (∀ j, j < ps.length → nodeOk N ps r j) := fun j hj => ⟨fun h => by have := (HJ.out j hj).1 h; omega, (HJ.out j hj).2⟩
    have HR2 := Lib.hid hr2
    have hmk := fun W => Go.run_make_row' (P := Tryz.prog) 25 3 (.int .i64 0) 8 Tryz.underlying25 int_inf rfl .i64 .i64 ps.length (by omega) (by omega) W
    clear hr2 HRT HJ
    go_wp2
    clear hmk
    obtain ⟨wb, rfl⟩ : ∃ wb : World, wb = wr := ⟨_, rfl⟩
    have hszr : w.heap.size < wb.heap.size := HBL.out.lt
    go_loopw [54] (fun i wq => ∃ (k : Nat) (ds : List Int), k ≤ ps.length ∧ i = .int .i64 k ∧ ds.length = k ∧ wq.rowIs wb.heap.size 3 ps.length (fun i => if i < k then .int .i64 (gi ds i) else .int .i64 0) ∧
     (∀ v, v < k → ∃ q : Nat, gi ds v = q ∧ depthIs N ps r v q) ∧ Below wb.heap.size wb wq)
     (fun i _ => ps.length - (intOf i).toNat)
    case atStart =>
     refine ⟨0, [], Nat.zero_le _, rfl, rfl, ?_, fun v hv => absurd hv (Nat.not_lt_zero _), (Below.refl _ _).alloc (Nat.le_refl _) _⟩
     simpa using World.rowIs_made wb (.int .i64 0) ps.length 3
    case round =>
     obtain ⟨wo, rfl⟩ : ∃ wo : World, wo = wr := ⟨_, rfl⟩
     obtain ⟨k, ds, hk, rfl, hdl, hrow, hds, hbel⟩ := hrel
     have HDL := Lib.hid hdl
     have HRW := Lib.hid hrow
     have HDS := Lib.hid hds
     have HBW := Lib.hid hbel
     clear hdl hrow hds hbel
     by_cases hlt : k < ps.length
     ·go_wp2
      go_loopw [12] (fun x wq => ∃ m y : Nat, x = .int .i64 y ∧ m ≤ ps.length ∧ y = up N ps m k ∧ (∀ i, i < m → up N ps i k ≠ r) ∧
       wq.rowIs wb.heap.size 3 ps.length (fun i => if i < k then .int .i64 (gi ds i) else if i = k then .int .i64 m else .int .i64 0) ∧ Below wb.heap.size wb wq)
       (fun _ wq => ps.length - (intOf ((wq.cell? ⟨wb.heap.size, k, none⟩).getD (.int .i64 0))).toNat)
      case atStart =>
       refine ⟨0, k, rfl, by omega, rfl, fun i hi => absurd hi (Nat.not_lt_zero _), HRW.out.congr fun i hi => ?_, HBW.out⟩
       by_cases h1 : i < k
       ·simp [h1]
       ·by_cases h2 : i = k <;> simp [h1, h2]
      case round =>
       obtain ⟨m, y, rfl, hm, hy, hup, hrow, hbel⟩ := hrel
       have HY := Lib.hid hy
       have HUP := Lib.hid hup
       clear hy hup
       have hylt : y < ps.length := by
        rw [HY.out]; exact up_lt HG.out HL.out HJ2.out hlt m HUP.out
       have hck : wr.cell? ⟨wb.heap.size, k, none⟩ = some (.int .i64 (m : Int)) := by
        have := hrow.cell hlt
        simpa using this
       have hfk := hrow.frozen k
       have HROW := Lib.hid hrow
       have HBEL := Lib.hid hbel
       clear hrow hbel
       by_cases hyr : y = r
       ·have e4 : (((y : Nat) : Int) != ((r : Nat) : Int)) = false := by simp [hyr]
        have HD : Hid (∀ v, v < k + 1 → ∃ q : Nat, gi (ds ++ [(m : Int)]) v = q ∧ depthIs N ps r v q) := by
         intro v hv
         by_cases h3 : v = k
         ·subst h3
          refine ⟨m, ?_, hm, by rw [← HY.out]; exact hyr, HUP.out⟩
          rw [← HDL.out]; simp [gi]
         ·obtain ⟨q, e, hq⟩ := HDS.out v (by omega)
          refine ⟨q, ?_, hq⟩
          rw [← e]; simp only [gi, List.getD_eq_getElem?_getD]; rw [List.getElem?_append_left (by have := HDL.out; omega)]
        clear hyr
        go_wp2
        go_roundw
        case rel =>
         refine ⟨k + 1, ds ++ [(m : Int)], by omega, by go_num, by simp [HDL.out], HROW.out.congr fun i hi => ?_, HD.out, HBEL.out⟩
         by_cases h1 : i < k
         ·have : gi (ds ++ [(m : Int)]) i = gi ds i := by
           simp only [gi, List.getD_eq_getElem?_getD]; rw [List.getElem?_append_left (by have := HDL.out; omega)]
          simp [h1, this, show i < k + 1 by omega]
         ·by_cases h2 : i = k
          ·subst h2
           have : gi (ds ++ [(m : Int)]) i = m := by rw [← HDL.out]; simp [gi]
           simp [this]
          ·simp [h1, h2, show ¬ i < k + 1 by omega]
        case measure => simp [intOf]; omega
       ·have e4 : (((y : Nat) : Int) != ((r : Nat) : Int)) = true := by simp; omega
        have HRS := Lib.hid (HROW.out.set k (.int .i64 ((m : Int) + 1)))
        have HBS := Lib.hid (HBEL.out.setCell (p := ⟨wb.heap.size, k, none⟩) (Nat.le_refl _) (.int .i64 ((m : Int) + 1)))
        by_cases hml : m < ps.length
        ·obtain ⟨hp1, hp2, hp3, hp4⟩ := par_lt HG.out HL.out hylt (HJ2.out y hylt) hyr
         obtain ⟨u, hu, A4, c4, rfl, hn4, hm4, hc4⟩ := HC.out y (by omega)
         unfold maxLen at hm4
         obtain ⟨b4, off4, rfl, -, hc4'⟩ := hc4 (by omega)
         have hq1 := (hc4' (gi ps y).toNat hp4).1
         rw [hp2] at hq1
         have hc5 := HC3.out y hylt
         obtain ⟨p, hpe⟩ : ∃ p, p = gi ps y := ⟨_, rfl⟩
         rw [← hpe] at hq1 hc5 hp3 hp4
         have hBB : Below w.heap.size w (wr.setCell ⟨wb.heap.size, k, none⟩ (.int .i64 ((m : Int) + 1))) := Below.thenB HBE.out HBS.out HBE.out.size
         have i1 := Lib.hid ((hBB.cell (p := ⟨b, off + y, none⟩) (lt_of_cell hu)).trans hu)
         have i2 := Lib.hid ((hBB.cell (p := ⟨b3, off3 + y, none⟩) (lt_of_cell hc5)).trans hc5)
         have i3 := Lib.hid ((hBB.cell (p := ⟨b4, off4 + p.toNat * 2, none⟩) (lt_of_cell hq1)).trans hq1)
         have i4 := Lib.hid ((HBL.out.below HBS.out).cell)
         have j1 : (0 : Int) ≤ (y : Int) := by omega
         have j2 : (y : Int) < (N.ends.length : Int) := by omega
         have j3 : (y : Int) < (ps.length : Int) := by omega
         have j4 : p < ((gl N.ends y).length : Int) := by omega
         clear hc4 hc4' hq1 hc5 hpe hp2 hu hBB
         go_wp2
         generalize wr.setCell ⟨wb.heap.size, k, none⟩ (.int .i64 ((m : Int) + 1)) = W1 at HRS HBS i1 i2 i3 i4 ⊢
         have i1 := i1.out
         have i2 := i2.out
         have i3 := i3.out
         have i4 := i4.out
         have hcW : W1.cell? ⟨wb.heap.size, k, none⟩ = some (.int .i64 ((m : Int) + 1)) := by
          have := HRS.out.cell hlt
          simpa using this
         have HCW := Lib.hid hcW
         have HCK := Lib.hid hck
         clear hcW hck
         go_quiet (fail)
         go_wp2
         go_roundw
         case rel =>
          refine ⟨m + 1, par N ps y, rfl, by omega, by rw [HY.out]; rfl, fun i hi => ?_, World.rowIs.congr HRS.out fun i hi => ?_, below_drewN HBS.out _⟩
          ·by_cases h3 : i = m
           ·subst h3; rw [← HY.out]; exact hyr
           ·exact HUP.out i (by omega)
          ·by_cases h1 : i = k
           ·subst h1; simp
           ·by_cases h2 : i < k <;> simp [h1, h2]
         case measure =>
          have h1 := HCW.out
          have h2 := HCK.out
          show ps.length - (intOf ((W1.cell? _).getD _)).toNat < _
          rw [h1, h2]
          simp [intOf]; omega
        ·have HT := Lib.hid (noTree_deep (N := N) hr1 HR2.out hlt fun i hi => by
          by_cases h3 : i = m
          ·subst h3; rw [← HY.out]; exact hyr
          ·exact HUP.out i (by omega))
         go_wp2
         go_ret3
         exact ⟨Below.thenB HBE.out HBS.out HBE.out.size, .inr ⟨HT.out, rfl⟩⟩
     ·go_wp2
      go_ret3
      refine ⟨Below.thenB HBE.out HBW.out HBE.out.size, .inl ⟨r, ds, _, ⟨HL.out, hr1, HR2.out, HJ2.out, by rw [HDL.out]; omega, fun v hv => HDS.out v (by omega)⟩, rfl, ?_⟩⟩
      exact OwnI.of_rowIs (HRW.out.congr fun i hi => by simp [show i < k by omega]) (by rw [HDL.out]; omega) (by omega) (by unfold maxLen; omega)
end Go.Proofs.YtlaahgdikiiahaaGreat
