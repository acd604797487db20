/- The statement's function FnExactRunTable returns true for all arguments, and writes nothing that was there. -/
import Derived.Test.YtjoimponfeofkaaGreatCGv2
import Derived.Test.YtjoimponfeofkaaGreatCJn23
import Derived.Test.YtjoimponfeofkaaGreatCLw
import Derived.Deep.RegionHeld3
namespace Go.Proofs.YtjoimponfeofkaaGreat
open Go.RowKit


set_option maxRecDepth 100000 in
set_option maxHeartbeats 16000000 in
theorem lawRunTable (u0 : Value) (D0 : Int) (rows0 : List RowT) (v1 : Value) (N1 : Net) (w : World) (h0 : SlR encR w anyB u0 rows0) (hs0 : ∀ j, j < rows0.length → (ga rows0 j).1.size ≤ 9223372036854775807) (h1 : NetR w anyB v1 N1) :
    Calls Tryz.prog 4 #[.agg #[.int .i64 D0, u0], v1] w (RetV w (.bool true)) := by
  have HR0 := Lib.hid h0
  have HS0 := Lib.hid hs0
  obtain ⟨A0, c0, rfl, -, -, -⟩ := h0
  clear hs0
  have HR1 := Lib.hid h1
  obtain ⟨ve1, vi1, vn1, rfl, he1, hi1, hn1⟩ := h1
  obtain ⟨P1, p1, rfl, -, -, -⟩ := he1
  obtain ⟨Q1, q1, rfl, -, -, -⟩ := hi1
  obtain ⟨R1, r1, rfl, -, -, -⟩ := hn1
  obtain ⟨x, hx⟩ : ∃ x, x = runT D0 rows0 N1 := ⟨_, rfl⟩
  have B1 := Lib.hid (((Below.refl w.heap.size w).alloc (Nat.le_refl _) (.cells #[.int .i64 D0, .slice A0 rows0.length c0] 24)).alloc (by simp) (.cells #[.slice P1 N1.ends.length p1, .slice Q1 N1.ids.length q1, .slice R1 N1.inputs.length r1] 28))
  have KA0 : Hid (Blk ((w.alloc (.cells #[.int .i64 D0, .slice A0 rows0.length c0] 24)).alloc (.cells #[.slice P1 N1.ends.length p1, .slice Q1 N1.ids.length q1, .slice R1 N1.inputs.length r1] 28)) (w.heap.size) 24 #[.int .i64 D0, .slice A0 rows0.length c0]) := Lib.hid (by have := Blk.alloc (Blk.new w 24 #[.int .i64 D0, .slice A0 rows0.length c0]) (.cells #[.slice P1 N1.ends.length p1, .slice Q1 N1.ids.length q1, .slice R1 N1.inputs.length r1] 28); simpa using this)
  have KA1 : Hid (Blk ((w.alloc (.cells #[.int .i64 D0, .slice A0 rows0.length c0] 24)).alloc (.cells #[.slice P1 N1.ends.length p1, .slice Q1 N1.ids.length q1, .slice R1 N1.inputs.length r1] 28)) (w.heap.size + 1) 28 #[.slice P1 N1.ends.length p1, .slice Q1 N1.ids.length q1, .slice R1 N1.inputs.length r1]) := Lib.hid (by have := Blk.new (w.alloc (.cells #[.int .i64 D0, .slice A0 rows0.length c0] 24)) 28 #[.slice P1 N1.ends.length p1, .slice Q1 N1.ids.length q1, .slice R1 N1.inputs.length r1]; simpa using this)
  have HZ1 : Hid (((w.alloc (.cells #[.int .i64 D0, .slice A0 rows0.length c0] 24)).alloc (.cells #[.slice P1 N1.ends.length p1, .slice Q1 N1.ids.length q1, .slice R1 N1.inputs.length r1] 28)).heap.size = w.heap.size + 2) := Lib.hid (by simp)
  go_enter Tryz.func4, Tryz.ntmps4
  go_wp2_with fail
  generalize (w.alloc (.cells #[.int .i64 D0, .slice A0 rows0.length c0] 24)).alloc (.cells #[.slice P1 N1.ends.length p1, .slice Q1 N1.ids.length q1, .slice R1 N1.inputs.length r1] 28) = w1 at *
  refine (szTable_any _ D0 rows0 1048576 _ (HR0.out.below B1.out) (by omega) (by omega) HS0.out).mono ?_
  rintro e ws0 ⟨lf0, rfl, lfa0, lfb0, hsh0, hb⟩
  have B2 := Lib.hid hb
  have HZ2 := Lib.hid hb.size
  clear hb
  have HSH0 := Lib.hid hsh0
  clear hsh0
  by_cases hneg0 : lf0 < 0
  · go_wp2_with fail
    go_ret
    exact ⟨rfl, (Below.then_ B1.out B2.out)⟩
  have hrn0 : rows0.length ≤ 1048576 := by have := HSH0.out (by omega); omega
  have kk1 := ((KA1.out.below B2.out)).cell
  have kk1z : w.heap.size + 1 < ws0.heap.size := (by have z1 := HZ1.out; have z2 := HZ2.out; omega)
  go_wp2_with fail
  clear kk1 kk1z
  refine (szNetwork_any _ N1 lf0 _ (HR1.out.below (Below.then_ B1.out B2.out)) (by omega) (by omega)).mono ?_
  rintro e ws1 ⟨lf1, rfl, lfa1, lfb1, hsh1, hb⟩
  have B3 := Lib.hid hb
  have HZ3 := Lib.hid hb.size
  clear hb
  have HSH1 := Lib.hid hsh1
  clear hsh1
  by_cases hneg1 : lf1 < 0
  · go_wp2_with fail
    go_ret
    exact ⟨rfl, (Below.then_ (Below.then_ B1.out B2.out) B3.out)⟩
  have HSN1 := Lib.hid (HSH1.out (by omega))
  have hid1 : N1.ids.length ≤ 2097152 := by have := HSN1.out.2.1; omega
  obtain ⟨m, hm⟩ : ∃ m, m = x.getD [] := ⟨_, rfl⟩
  obtain ⟨ok, hok⟩ : ∃ ok, ok = x.isSome := ⟨_, rfl⟩
  have hlen : m.length ≤ 4096 := by rw [hm, hx]; exact runT_len D0 rows0 N1
  have CS : Hid (∀ (U0 : Value) (T0 : Nat → Prop) (U1 : Value) (T1 : Nat → Prop) (W : World), SlR encR W T0 U0 rows0 → NetR W T1 U1 N1 → Calls Tryz.prog 21 #[.agg #[.int .i64 D0, U0], U1] W fun e w' => ∃ A c, e = .returned (.tuple #[.slice A m.length c, .bool ok]) ∧ Below W.heap.size W w' ∧ OwnI w' W.heap.size (.slice A m.length c) m) := Lib.hid fun U0 T0 U1 T1 W g0 g1 => (RunTable_ref U0 U1 D0 rows0 N1 W g0 g1).mono fun e w' h => by
    rw [hm, hok, hx]
    exact (by have := h.out_; exact this)
  have CM : Hid (∀ (U0 : Value) (T0 : Nat → Prop) (U1 : Value) (T1 : Nat → Prop) (W : World), SlR encR W T0 U0 rows0 → NetR W T1 U1 N1 → Calls Tryz.prog 22 #[.agg #[.int .i64 D0, U0], U1] W fun e w' => ∃ A c, e = .returned (.tuple #[.slice A m.length c, .bool ok]) ∧ Below W.heap.size W w' ∧ OwnI w' W.heap.size (.slice A m.length c) m) := Lib.hid fun U0 T0 U1 T1 W g0 g1 => (RunTable_any U0 U1 D0 rows0 N1 W g0 g1 hid1).mono fun e w' h => by
    rw [hm, hok, hx]
    exact (by have := h.out_; exact this)
  clear hx hm hok
  have eok : (ok != ok) = false := by simp
  have HKSs : Hid (∀ W, Below ws1.heap.size ws1 W → (W.cell? ⟨w.heap.size, 0, none⟩ = some (.int .i64 D0) ∧ W.cell? ⟨w.heap.size, 1, none⟩ = some (.slice A0 rows0.length c0)) ∧ (W.cell? ⟨w.heap.size + 1, 0, none⟩ = some (.slice P1 N1.ends.length p1) ∧ W.cell? ⟨w.heap.size + 1, 1, none⟩ = some (.slice Q1 N1.ids.length q1) ∧ W.cell? ⟨w.heap.size + 1, 2, none⟩ = some (.slice R1 N1.inputs.length r1))) := Lib.hid fun W hW => ⟨mTab_cells ((KA0.out.below (Below.then_ B2.out B3.out)).below hW), mNet_cells ((KA1.out.below (Below.then_ B2.out B3.out)).below hW)⟩
  go_upto_region 8 with (fail)
  go_cut [6, 7] (fun x y W => ∃ (A : Option Addr) (c : Nat), x = .slice A m.length c ∧ y = .bool ok ∧ Below ws1.heap.size ws1 W ∧ OwnI W ws1.heap.size (.slice A m.length c) m)
  case first =>
    go_region_held3 (fun W => (W.cell? ⟨w.heap.size, 0, none⟩ = some (.int .i64 D0) ∧ W.cell? ⟨w.heap.size, 1, none⟩ = some (.slice A0 rows0.length c0)) ∧ (W.cell? ⟨w.heap.size + 1, 0, none⟩ = some (.slice P1 N1.ends.length p1) ∧ W.cell? ⟨w.heap.size + 1, 1, none⟩ = some (.slice Q1 N1.ids.length q1) ∧ W.cell? ⟨w.heap.size + 1, 2, none⟩ = some (.slice R1 N1.inputs.length r1)))
      ((refine HKSs.out _ ?_; repeat (first | with_reducible exact hbr' | with_reducible exact hbb0' | with_reducible exact hbb1' | with_reducible exact Below.refl _ _ | with_reducible refine Below.drew ?_ | with_reducible refine Below.alloc_ ?_ _ | with_reducible refine Below.set_ ?_ ?_ _ | (simp; done) | omega)))
      (first
        | (go_at_call 11; refine (toTable_any _ D0 rows0 _ (HR0.out.below (Below.then_ (Below.then_ (Below.then_ B1.out B2.out) B3.out) (by repeat (first | with_reducible exact hbb0' | with_reducible exact hbb1' | with_reducible exact Below.refl _ _ | with_reducible refine Below.drew ?_ | with_reducible refine Below.alloc_ ?_ _ | with_reducible refine Below.set_ ?_ ?_ _ | (simp; done) | omega)))) (by omega)).mono ?_; rintro e wq0 ⟨Ax0, cx0, rfl, hob0, hbb0⟩; have hbb0' : Below ws1.heap.size ws1 wq0 := Below.then_ (by repeat (first | with_reducible exact hbb0' | with_reducible exact hbb1' | with_reducible exact Below.refl _ _ | with_reducible refine Below.drew ?_ | with_reducible refine Below.alloc_ ?_ _ | with_reducible refine Below.set_ ?_ ?_ _ | (simp; done) | omega)) hbb0)
        | (go_at_call 12; refine (toNetwork_any _ N1 _ (HR1.out.below (Below.then_ (Below.then_ (Below.then_ B1.out B2.out) B3.out) (by repeat (first | with_reducible exact hbb0' | with_reducible exact hbb1' | with_reducible exact Below.refl _ _ | with_reducible refine Below.drew ?_ | with_reducible refine Below.alloc_ ?_ _ | with_reducible refine Below.set_ ?_ ?_ _ | (simp; done) | omega)))) HSN1.out).mono ?_; rintro e wq1 ⟨vx1, rfl, hob1, hbb1⟩; have hbb1' : Below ws1.heap.size ws1 wq1 := Below.then_ (by repeat (first | with_reducible exact hbb0' | with_reducible exact hbb1' | with_reducible exact Below.refl _ _ | with_reducible refine Below.drew ?_ | with_reducible refine Below.alloc_ ?_ _ | with_reducible refine Below.set_ ?_ ?_ _ | (simp; done) | omega)) hbb1)
        | (go_at_call 21; refine (CS.out _ _ _ _ _ (by first | exact hob0.slrB | exact (hob0.below (hbb1)).slrB) (by first | exact hob1.net HSN1.out | exact (hob1.below (hbb0)).net HSN1.out)).mono ?_; rintro e wr ⟨Ar, cr, rfl, hbr, hor⟩; have hbr' : Below ws1.heap.size ws1 wr := Below.then_ (by repeat (first | with_reducible exact hbb0' | with_reducible exact hbb1' | with_reducible exact Below.refl _ _ | with_reducible refine Below.drew ?_ | with_reducible refine Below.alloc_ ?_ _ | with_reducible refine Below.set_ ?_ ?_ _ | (simp; done) | omega)) hbr))
    all_goals
      go_wp2_with fail
      go_meet
      exact ⟨_, _, rfl, rfl, hbr', hor.mono (Below.size (by repeat (first | with_reducible exact hbb0' | with_reducible exact hbb1' | with_reducible exact Below.refl _ _ | with_reducible refine Below.drew ?_ | with_reducible refine Below.alloc_ ?_ _ | with_reducible refine Below.set_ ?_ ?_ _ | (simp; done) | omega)))⟩
  case rest =>
  obtain ⟨As, cs, rfl, rfl, hb, ho⟩ := hcut
  obtain ⟨ws, hws⟩ : ∃ z, z = wc := ⟨_, rfl⟩
  rw [← hws] at hb ho ⊢
  clear hws
  have Os := Lib.hid ho
  have Ls := Lib.hid fun g hg => (ho.lt g hg).2
  clear ho
  have B4 := Lib.hid hb
  have HZ4 := Lib.hid hb.size
  clear hb
  have kk2 := ((KA0.out.below (Below.then_ (Below.then_ B2.out B3.out) B4.out))).cell
  have kk2z : w.heap.size < ws.heap.size := (by have z1 := HZ1.out; have z2 := HZ2.out; have z3 := HZ3.out; have z4 := HZ4.out; omega)
  go_wp2_with fail
  clear kk2 kk2z
  refine (toTable_any _ D0 rows0 _ (HR0.out.below (Below.then_ (Below.then_ (Below.then_ B1.out B2.out) B3.out) B4.out)) (by omega)).mono ?_
  rintro e wa0 ⟨Xa0, xa0, rfl, ho, hb⟩
  have Oa0 := Lib.hid ho
  have La0 := Lib.hid fun g hg => (ho.lt g hg).2
  have Ma0 := Lib.hid fun g hg => (ho.lt g hg).1
  clear ho
  have B5 := Lib.hid hb
  have HZ5 := Lib.hid hb.size
  clear hb
  have B6 : Hid (Below wa0.heap.size wa0 (wa0.alloc (.cells #[.int .i64 D0, .slice Xa0 rows0.length xa0] 35))) := Lib.hid ((Below.refl _ _).alloc (Nat.le_refl _) _)
  have HZ6 : Hid ((wa0.alloc (.cells #[.int .i64 D0, .slice Xa0 rows0.length xa0] 35)).heap.size = wa0.heap.size + 1) := Lib.hid (by simp)
  have KX0 := Lib.hid (Blk.new wa0 35 #[.int .i64 D0, .slice Xa0 rows0.length xa0])
  have kk3 := ((KA1.out.below (Below.then_ (Below.then_ (Below.then_ B2.out B3.out) B4.out) B5.out))).cell
  have kk3z : w.heap.size + 1 < wa0.heap.size := (by have z1 := HZ1.out; have z2 := HZ2.out; have z3 := HZ3.out; have z4 := HZ4.out; have z5 := HZ5.out; omega)
  go_wp2_with fail
  clear kk3 kk3z
  generalize wa0.alloc (.cells #[.int .i64 D0, .slice Xa0 rows0.length xa0] 35) = wb0 at *
  refine (toNetwork_any _ N1 _ (HR1.out.below (Below.then_ (Below.then_ (Below.then_ (Below.then_ (Below.then_ B1.out B2.out) B3.out) B4.out) B5.out) B6.out)) HSN1.out).mono ?_
  rintro e wa1 ⟨vxa1, rfl, ho, hb⟩
  have Oa1 := Lib.hid ho
  obtain ⟨xe, xi, xn, rfl, hxe, hxi, hxn⟩ := ho
  obtain ⟨E1, e1, rfl⟩ := hxe.shape
  obtain ⟨F1, f1, rfl⟩ := hxi.shape
  obtain ⟨G1, g1, rfl⟩ := hxn.shape
  clear hxe hxi hxn
  have B7 := Lib.hid hb
  have HZ7 := Lib.hid hb.size
  clear hb
  have B8 : Hid (Below wa1.heap.size wa1 (wa1.alloc (.cells #[.slice E1 N1.ends.length e1, .slice F1 N1.ids.length f1, .slice G1 N1.inputs.length g1] 39))) := Lib.hid ((Below.refl _ _).alloc (Nat.le_refl _) _)
  have HZ8 : Hid ((wa1.alloc (.cells #[.slice E1 N1.ends.length e1, .slice F1 N1.ids.length f1, .slice G1 N1.inputs.length g1] 39)).heap.size = wa1.heap.size + 1) := Lib.hid (by simp)
  have KX1 := Lib.hid (Blk.new wa1 39 #[.slice E1 N1.ends.length e1, .slice F1 N1.ids.length f1, .slice G1 N1.inputs.length g1])
  have kk4 := ((KX0.out.below B7.out)).cell
  have kk4z : wa0.heap.size < wa1.heap.size := (by have z1 := HZ1.out; have z2 := HZ2.out; have z3 := HZ3.out; have z4 := HZ4.out; have z5 := HZ5.out; have z6 := HZ6.out; have z7 := HZ7.out; omega)
  go_wp2_with fail
  clear kk4 kk4z
  generalize wa1.alloc (.cells #[.slice E1 N1.ends.length e1, .slice F1 N1.ids.length f1, .slice G1 N1.inputs.length g1] 39) = wb1 at *
  refine (CM.out _ _ _ _ _ (Oa0.out.below (Below.then_ (Below.then_ B6.out B7.out) B8.out)).slrB ((Oa1.out.below B8.out).net HSN1.out)).mono ?_
  rintro e wg ⟨Ag, cg, rfl, hb, ho⟩
  have Og := Lib.hid ho
  have Lg := Lib.hid fun g hg => (ho.lt g hg).2
  have Mg := Lib.hid fun g hg => (ho.lt g hg).1
  clear ho
  have B9 := Lib.hid hb
  have HZ9 := Lib.hid hb.size
  clear hb
  go_wp2_with fail
  refine (eqIntS_any _ _ m m _ (Og.out).ints ((Os.out.below (Below.then_ (Below.then_ (Below.then_ (Below.then_ B5.out B6.out) B7.out) B8.out) B9.out))).ints).mono ?_
  rw [sameB_refl]
  rintro e we1 ⟨rfl, hb⟩
  replace hb : Below wg.heap.size wg we1 := by obtain ⟨n, rfl⟩ := hb; exact below_drewN (Below.refl _ _) n
  have B10 := Lib.hid hb
  have HZ10 := Lib.hid hb.size
  clear hb
  go_wp2_with fail
  have HKK0 : Hid (∀ W, Below we1.heap.size we1 W → (W.cell? ⟨wa0.heap.size, 0, none⟩ = some (.int .i64 D0) ∧ W.cell? ⟨wa0.heap.size, 1, none⟩ = some (.slice Xa0 rows0.length xa0)) ∧ (W.cell? ⟨w.heap.size, 0, none⟩ = some (.int .i64 D0) ∧ W.cell? ⟨w.heap.size, 1, none⟩ = some (.slice A0 rows0.length c0))) := Lib.hid fun W hW => ⟨mTab_cells ((KX0.out.below (Below.then_ (Below.then_ (Below.then_ B7.out B8.out) B9.out) B10.out)).below hW), mTab_cells ((KA0.out.below (Below.then_ (Below.then_ (Below.then_ (Below.then_ (Below.then_ (Below.then_ (Below.then_ (Below.then_ B2.out B3.out) B4.out) B5.out) B6.out) B7.out) B8.out) B9.out) B10.out)).below hW)⟩
  go_region_held3 (fun W => (W.cell? ⟨wa0.heap.size, 0, none⟩ = some (.int .i64 D0) ∧ W.cell? ⟨wa0.heap.size, 1, none⟩ = some (.slice Xa0 rows0.length xa0)) ∧ (W.cell? ⟨w.heap.size, 0, none⟩ = some (.int .i64 D0) ∧ W.cell? ⟨w.heap.size, 1, none⟩ = some (.slice A0 rows0.length c0)))
    ((refine HKK0.out _ ?_; repeat (first | with_reducible exact hbc' | with_reducible exact hbb' | with_reducible exact Below.refl _ _ | with_reducible refine Below.drew ?_ | with_reducible refine Below.alloc_ ?_ _)))
    (first
      | (go_at_call 11; refine (toTable_any _ D0 rows0 _ (HR0.out.below (Below.then_ (Below.then_ (Below.then_ (Below.then_ (Below.then_ (Below.then_ (Below.then_ (Below.then_ (Below.then_ (Below.then_ B1.out B2.out) B3.out) B4.out) B5.out) B6.out) B7.out) B8.out) B9.out) B10.out) (by repeat (first | with_reducible exact hbc' | with_reducible exact hbb' | with_reducible exact Below.refl _ _ | with_reducible refine Below.drew ?_ | with_reducible refine Below.alloc_ ?_ _)))) (by omega)).mono ?_; rintro e wb ⟨Ab, cb, rfl, hob, hbb⟩; have hbb' : Below we1.heap.size we1 wb := Below.then_ (by repeat (first | with_reducible exact hbc' | with_reducible exact hbb' | with_reducible exact Below.refl _ _ | with_reducible refine Below.drew ?_ | with_reducible refine Below.alloc_ ?_ _)) hbb)
      | (go_at_call 15; refine (eqTable_same _ _ D0 rows0 _ (((Oa0.out.below (Below.then_ (Below.then_ (Below.then_ (Below.then_ B6.out B7.out) B8.out) B9.out) B10.out))).below (by repeat (first | with_reducible exact hbc' | with_reducible exact hbb' | with_reducible exact Below.refl _ _ | with_reducible refine Below.drew ?_ | with_reducible refine Below.alloc_ ?_ _))).slrB hob.slrB).mono ?_; rintro e wc ⟨rfl, hbc⟩; have hbc' : Below we1.heap.size we1 wc := Below.then_ hbb' hbc))
  obtain ⟨wc0, hwc⟩ : ∃ z, z = wc := ⟨_, rfl⟩
  rw [← hwc] at hbc' ⊢
  clear hwc hbb hbb' hbc hob
  have hb := hbc'
  clear hbc'
  have B11 := Lib.hid hb
  have HZ11 := Lib.hid hb.size
  clear hb
  go_wp2_with fail
  have HKK1 : Hid (∀ W, Below wc0.heap.size wc0 W → (W.cell? ⟨wa1.heap.size, 0, none⟩ = some (.slice E1 N1.ends.length e1) ∧ W.cell? ⟨wa1.heap.size, 1, none⟩ = some (.slice F1 N1.ids.length f1) ∧ W.cell? ⟨wa1.heap.size, 2, none⟩ = some (.slice G1 N1.inputs.length g1)) ∧ (W.cell? ⟨w.heap.size + 1, 0, none⟩ = some (.slice P1 N1.ends.length p1) ∧ W.cell? ⟨w.heap.size + 1, 1, none⟩ = some (.slice Q1 N1.ids.length q1) ∧ W.cell? ⟨w.heap.size + 1, 2, none⟩ = some (.slice R1 N1.inputs.length r1))) := Lib.hid fun W hW => ⟨mNet_cells ((KX1.out.below (Below.then_ (Below.then_ B9.out B10.out) B11.out)).below hW), mNet_cells ((KA1.out.below (Below.then_ (Below.then_ (Below.then_ (Below.then_ (Below.then_ (Below.then_ (Below.then_ (Below.then_ (Below.then_ B2.out B3.out) B4.out) B5.out) B6.out) B7.out) B8.out) B9.out) B10.out) B11.out)).below hW)⟩
  go_region_held3 (fun W => (W.cell? ⟨wa1.heap.size, 0, none⟩ = some (.slice E1 N1.ends.length e1) ∧ W.cell? ⟨wa1.heap.size, 1, none⟩ = some (.slice F1 N1.ids.length f1) ∧ W.cell? ⟨wa1.heap.size, 2, none⟩ = some (.slice G1 N1.inputs.length g1)) ∧ (W.cell? ⟨w.heap.size + 1, 0, none⟩ = some (.slice P1 N1.ends.length p1) ∧ W.cell? ⟨w.heap.size + 1, 1, none⟩ = some (.slice Q1 N1.ids.length q1) ∧ W.cell? ⟨w.heap.size + 1, 2, none⟩ = some (.slice R1 N1.inputs.length r1)))
    ((refine HKK1.out _ ?_; repeat (first | with_reducible exact hbc' | with_reducible exact hbb' | with_reducible exact Below.refl _ _ | with_reducible refine Below.drew ?_ | with_reducible refine Below.alloc_ ?_ _)))
    (first
      | (go_at_call 12; refine (toNetwork_any _ N1 _ (HR1.out.below (Below.then_ (Below.then_ (Below.then_ (Below.then_ (Below.then_ (Below.then_ (Below.then_ (Below.then_ (Below.then_ (Below.then_ (Below.then_ B1.out B2.out) B3.out) B4.out) B5.out) B6.out) B7.out) B8.out) B9.out) B10.out) B11.out) (by repeat (first | with_reducible exact hbc' | with_reducible exact hbb' | with_reducible exact Below.refl _ _ | with_reducible refine Below.drew ?_ | with_reducible refine Below.alloc_ ?_ _)))) HSN1.out).mono ?_; rintro e wb ⟨vb, rfl, hob, hbb⟩; have hbb' : Below wc0.heap.size wc0 wb := Below.then_ (by repeat (first | with_reducible exact hbc' | with_reducible exact hbb' | with_reducible exact Below.refl _ _ | with_reducible refine Below.drew ?_ | with_reducible refine Below.alloc_ ?_ _)) hbb)
      | (go_at_call 16; refine (eqNetwork_any _ _ N1 N1 _ ((((Oa1.out.below (Below.then_ (Below.then_ (Below.then_ B8.out B9.out) B10.out) B11.out))).below (by repeat (first | with_reducible exact hbc' | with_reducible exact hbb' | with_reducible exact Below.refl _ _ | with_reducible refine Below.drew ?_ | with_reducible refine Below.alloc_ ?_ _))).net HSN1.out) (hob.net HSN1.out)).mono ?_; rw [sameN_refl]; rintro e wc ⟨rfl, hbc⟩; have hbc' : Below wc0.heap.size wc0 wc := Below.then_ hbb' hbc))
  obtain ⟨wc1, hwc⟩ : ∃ z, z = wc := ⟨_, rfl⟩
  rw [← hwc] at hbc' ⊢
  clear hwc hbb hbb' hbc hob
  have hb := hbc'
  clear hbc'
  have B12 := Lib.hid hb
  have HZ12 := Lib.hid hb.size
  clear hb
  have kk5 := ((KX0.out.below (Below.then_ (Below.then_ (Below.then_ (Below.then_ (Below.then_ B7.out B8.out) B9.out) B10.out) B11.out) B12.out))).cell
  have kk5z : wa0.heap.size < wc1.heap.size := (by have z1 := HZ1.out; have z2 := HZ2.out; have z3 := HZ3.out; have z4 := HZ4.out; have z5 := HZ5.out; have z6 := HZ6.out; have z7 := HZ7.out; have z8 := HZ8.out; have z9 := HZ9.out; have z10 := HZ10.out; have z11 := HZ11.out; have z12 := HZ12.out; omega)
  go_wp2_with fail
  clear kk5 kk5z
  refine (markTable_1 _ _ D0 rows0 _ (Oa0.out.below (Below.then_ (Below.then_ (Below.then_ (Below.then_ (Below.then_ (Below.then_ B6.out B7.out) B8.out) B9.out) B10.out) B11.out) B12.out)) (by omega)).mono ?_
  rintro e wm0 ⟨rfl, -, hg⟩
  have MK0 : Hid (Marked ws.heap.size wa0.heap.size wc1 wm0) := Lib.hid (Marked.of_grown hg fun g hg => ⟨Ma0.out g hg, La0.out g hg⟩)
  obtain ⟨km0, hkm0⟩ : ∃ z : Nat, z = 1 + 2 * rows0.length := ⟨_, rfl⟩
  rw [← hkm0]
  have km0a : 0 < km0 := by omega
  have km0b : km0 ≤ 2097153 := by omega
  have km0c : ¬ (km0 : Int) < 0 := by omega
  clear hkm0 hg
  have HZ13 := Lib.hid MK0.out.size
  have kk6 := (((KX1.out.below (Below.then_ (Below.then_ (Below.then_ B9.out B10.out) B11.out) B12.out)).mk_ MK0.out (by have z1 := HZ1.out; have z2 := HZ2.out; have z3 := HZ3.out; have z4 := HZ4.out; have z5 := HZ5.out; have z6 := HZ6.out; have z7 := HZ7.out; have z8 := HZ8.out; have z9 := HZ9.out; have z10 := HZ10.out; have z11 := HZ11.out; have z12 := HZ12.out; have z13 := HZ13.out; omega))).cell
  have kk6z : wa1.heap.size < wm0.heap.size := (by have z1 := HZ1.out; have z2 := HZ2.out; have z3 := HZ3.out; have z4 := HZ4.out; have z5 := HZ5.out; have z6 := HZ6.out; have z7 := HZ7.out; have z8 := HZ8.out; have z9 := HZ9.out; have z10 := HZ10.out; have z11 := HZ11.out; have z12 := HZ12.out; have z13 := HZ13.out; omega)
  go_wp2_with fail
  clear kk6 kk6z
  refine (markNetwork_at wb0.heap.size _ N1 km0 wa1 _ Oa1.out HSN1.out (by have z1 := HZ1.out; have z2 := HZ2.out; have z3 := HZ3.out; have z4 := HZ4.out; have z5 := HZ5.out; have z6 := HZ6.out; have z7 := HZ7.out; have z8 := HZ8.out; have z9 := HZ9.out; have z10 := HZ10.out; have z11 := HZ11.out; have z12 := HZ12.out; have z13 := HZ13.out; omega) (fun b ha hb => ((MK0.out.at_ (by have z1 := HZ1.out; have z2 := HZ2.out; have z3 := HZ3.out; have z4 := HZ4.out; have z5 := HZ5.out; have z6 := HZ6.out; have z7 := HZ7.out; have z8 := HZ8.out; have z9 := HZ9.out; have z10 := HZ10.out; have z11 := HZ11.out; have z12 := HZ12.out; have z13 := HZ13.out; omega) (by have z1 := HZ1.out; have z2 := HZ2.out; have z3 := HZ3.out; have z4 := HZ4.out; have z5 := HZ5.out; have z6 := HZ6.out; have z7 := HZ7.out; have z8 := HZ8.out; have z9 := HZ9.out; have z10 := HZ10.out; have z11 := HZ11.out; have z12 := HZ12.out; have z13 := HZ13.out; omega)).trans ((B12.out.block b (by have z1 := HZ1.out; have z2 := HZ2.out; have z3 := HZ3.out; have z4 := HZ4.out; have z5 := HZ5.out; have z6 := HZ6.out; have z7 := HZ7.out; have z8 := HZ8.out; have z9 := HZ9.out; have z10 := HZ10.out; have z11 := HZ11.out; have z12 := HZ12.out; have z13 := HZ13.out; omega)).trans ((B11.out.block b (by have z1 := HZ1.out; have z2 := HZ2.out; have z3 := HZ3.out; have z4 := HZ4.out; have z5 := HZ5.out; have z6 := HZ6.out; have z7 := HZ7.out; have z8 := HZ8.out; have z9 := HZ9.out; have z10 := HZ10.out; have z11 := HZ11.out; have z12 := HZ12.out; have z13 := HZ13.out; omega)).trans ((B10.out.block b (by have z1 := HZ1.out; have z2 := HZ2.out; have z3 := HZ3.out; have z4 := HZ4.out; have z5 := HZ5.out; have z6 := HZ6.out; have z7 := HZ7.out; have z8 := HZ8.out; have z9 := HZ9.out; have z10 := HZ10.out; have z11 := HZ11.out; have z12 := HZ12.out; have z13 := HZ13.out; omega)).trans ((B9.out.block b (by have z1 := HZ1.out; have z2 := HZ2.out; have z3 := HZ3.out; have z4 := HZ4.out; have z5 := HZ5.out; have z6 := HZ6.out; have z7 := HZ7.out; have z8 := HZ8.out; have z9 := HZ9.out; have z10 := HZ10.out; have z11 := HZ11.out; have z12 := HZ12.out; have z13 := HZ13.out; omega)).trans (B8.out.block b (by have z1 := HZ1.out; have z2 := HZ2.out; have z3 := HZ3.out; have z4 := HZ4.out; have z5 := HZ5.out; have z6 := HZ6.out; have z7 := HZ7.out; have z8 := HZ8.out; have z9 := HZ9.out; have z10 := HZ10.out; have z11 := HZ11.out; have z12 := HZ12.out; have z13 := HZ13.out; omega)))))))) (by omega) (by omega)).mono ?_
  rintro e wm1 ⟨km1, rfl, km1a, km1b, hm⟩
  have MK1 := Lib.hid hm
  clear hm
  have km1c : ¬ km1 < 0 := by omega
  have HZ14 := Lib.hid MK1.out.size
  go_wp2_with fail
  refine (eqIntS_any _ _ m m _ ((((Og.out.below (Below.then_ (Below.then_ B10.out B11.out) B12.out)).mk_ MK0.out (fun g hg => by have h := Lg.out g hg; have h2 := Mg.out g hg; have z1 := HZ1.out; have z2 := HZ2.out; have z3 := HZ3.out; have z4 := HZ4.out; have z5 := HZ5.out; have z6 := HZ6.out; have z7 := HZ7.out; have z8 := HZ8.out; have z9 := HZ9.out; have z10 := HZ10.out; have z11 := HZ11.out; have z12 := HZ12.out; have z13 := HZ13.out; have z14 := HZ14.out; omega)).mk_ MK1.out (fun g hg => by have h := Lg.out g hg; have h2 := Mg.out g hg; have z1 := HZ1.out; have z2 := HZ2.out; have z3 := HZ3.out; have z4 := HZ4.out; have z5 := HZ5.out; have z6 := HZ6.out; have z7 := HZ7.out; have z8 := HZ8.out; have z9 := HZ9.out; have z10 := HZ10.out; have z11 := HZ11.out; have z12 := HZ12.out; have z13 := HZ13.out; have z14 := HZ14.out; omega))).ints ((((Os.out.below (Below.then_ (Below.then_ (Below.then_ (Below.then_ (Below.then_ (Below.then_ (Below.then_ B5.out B6.out) B7.out) B8.out) B9.out) B10.out) B11.out) B12.out)).mk_ MK0.out (fun g hg => by have h := Ls.out g hg; have z1 := HZ1.out; have z2 := HZ2.out; have z3 := HZ3.out; have z4 := HZ4.out; have z5 := HZ5.out; have z6 := HZ6.out; have z7 := HZ7.out; have z8 := HZ8.out; have z9 := HZ9.out; have z10 := HZ10.out; have z11 := HZ11.out; have z12 := HZ12.out; have z13 := HZ13.out; have z14 := HZ14.out; omega)).mk_ MK1.out (fun g hg => by have h := Ls.out g hg; have z1 := HZ1.out; have z2 := HZ2.out; have z3 := HZ3.out; have z4 := HZ4.out; have z5 := HZ5.out; have z6 := HZ6.out; have z7 := HZ7.out; have z8 := HZ8.out; have z9 := HZ9.out; have z10 := HZ10.out; have z11 := HZ11.out; have z12 := HZ12.out; have z13 := HZ13.out; have z14 := HZ14.out; omega))).ints).mono ?_
  rw [sameB_refl]
  rintro e we2 ⟨rfl, hb⟩
  replace hb : Below wm1.heap.size wm1 we2 := by obtain ⟨n, rfl⟩ := hb; exact below_drewN (Below.refl _ _) n
  have B15 := Lib.hid hb
  have HZ15 := Lib.hid hb.size
  clear hb
  go_wp2_with fail
  refine (markIntS_any _ _ m 1 _ ((((Og.out.below (Below.then_ (Below.then_ B10.out B11.out) B12.out)).mk_ MK0.out (fun g hg => by have h := Lg.out g hg; have h2 := Mg.out g hg; have z1 := HZ1.out; have z2 := HZ2.out; have z3 := HZ3.out; have z4 := HZ4.out; have z5 := HZ5.out; have z6 := HZ6.out; have z7 := HZ7.out; have z8 := HZ8.out; have z9 := HZ9.out; have z10 := HZ10.out; have z11 := HZ11.out; have z12 := HZ12.out; have z13 := HZ13.out; have z14 := HZ14.out; have z15 := HZ15.out; omega)).mk_ MK1.out (fun g hg => by have h := Lg.out g hg; have h2 := Mg.out g hg; have z1 := HZ1.out; have z2 := HZ2.out; have z3 := HZ3.out; have z4 := HZ4.out; have z5 := HZ5.out; have z6 := HZ6.out; have z7 := HZ7.out; have z8 := HZ8.out; have z9 := HZ9.out; have z10 := HZ10.out; have z11 := HZ11.out; have z12 := HZ12.out; have z13 := HZ13.out; have z14 := HZ14.out; have z15 := HZ15.out; omega)).below B15.out) (by omega) (by omega) (by omega)).mono ?_
  rintro e wn ⟨rfl, ho, hg, -⟩
  have On := Lib.hid ho
  have MN : Hid (Marked wb1.heap.size wg.heap.size we2 wn) := Lib.hid (Marked.of_grown hg fun g hg => ⟨Mg.out g hg, Lg.out g hg⟩)
  clear ho hg
  have e5 : ¬ 1 + (m.length : Int) < 0 := by omega
  have e6 : ((1 + (m.length : Int)) != (1 + (m.length : Int))) = false := by simp
  have HZ16 := Lib.hid MN.out.size
  go_wp2_with fail
  refine (heldIntS_any _ _ 1 m.length _ On.out (by omega) (by omega) (by omega)).mono ?_
  rintro e wh1 ⟨rfl, rfl⟩
  go_upto_region 31 with (fail)
  have HKSt : Hid (∀ W, Below wn.heap.size wn W → (W.cell? ⟨w.heap.size, 0, none⟩ = some (.int .i64 D0) ∧ W.cell? ⟨w.heap.size, 1, none⟩ = some (.slice A0 rows0.length c0)) ∧ (W.cell? ⟨w.heap.size + 1, 0, none⟩ = some (.slice P1 N1.ends.length p1) ∧ W.cell? ⟨w.heap.size + 1, 1, none⟩ = some (.slice Q1 N1.ids.length q1) ∧ W.cell? ⟨w.heap.size + 1, 2, none⟩ = some (.slice R1 N1.inputs.length r1))) := Lib.hid fun W hW => ⟨mTab_cells ((((((KA0.out.below (Below.then_ (Below.then_ (Below.then_ (Below.then_ (Below.then_ (Below.then_ (Below.then_ (Below.then_ (Below.then_ (Below.then_ B2.out B3.out) B4.out) B5.out) B6.out) B7.out) B8.out) B9.out) B10.out) B11.out) B12.out)).mk_ MK0.out (by have z1 := HZ1.out; have z2 := HZ2.out; have z3 := HZ3.out; have z4 := HZ4.out; have z5 := HZ5.out; have z6 := HZ6.out; have z7 := HZ7.out; have z8 := HZ8.out; have z9 := HZ9.out; have z10 := HZ10.out; have z11 := HZ11.out; have z12 := HZ12.out; have z13 := HZ13.out; have z14 := HZ14.out; have z15 := HZ15.out; have z16 := HZ16.out; omega)).mk_ MK1.out (by have z1 := HZ1.out; have z2 := HZ2.out; have z3 := HZ3.out; have z4 := HZ4.out; have z5 := HZ5.out; have z6 := HZ6.out; have z7 := HZ7.out; have z8 := HZ8.out; have z9 := HZ9.out; have z10 := HZ10.out; have z11 := HZ11.out; have z12 := HZ12.out; have z13 := HZ13.out; have z14 := HZ14.out; have z15 := HZ15.out; have z16 := HZ16.out; omega)).below B15.out).mk_ MN.out (by have z1 := HZ1.out; have z2 := HZ2.out; have z3 := HZ3.out; have z4 := HZ4.out; have z5 := HZ5.out; have z6 := HZ6.out; have z7 := HZ7.out; have z8 := HZ8.out; have z9 := HZ9.out; have z10 := HZ10.out; have z11 := HZ11.out; have z12 := HZ12.out; have z13 := HZ13.out; have z14 := HZ14.out; have z15 := HZ15.out; have z16 := HZ16.out; omega)).below hW), mNet_cells ((((((KA1.out.below (Below.then_ (Below.then_ (Below.then_ (Below.then_ (Below.then_ (Below.then_ (Below.then_ (Below.then_ (Below.then_ (Below.then_ B2.out B3.out) B4.out) B5.out) B6.out) B7.out) B8.out) B9.out) B10.out) B11.out) B12.out)).mk_ MK0.out (by have z1 := HZ1.out; have z2 := HZ2.out; have z3 := HZ3.out; have z4 := HZ4.out; have z5 := HZ5.out; have z6 := HZ6.out; have z7 := HZ7.out; have z8 := HZ8.out; have z9 := HZ9.out; have z10 := HZ10.out; have z11 := HZ11.out; have z12 := HZ12.out; have z13 := HZ13.out; have z14 := HZ14.out; have z15 := HZ15.out; have z16 := HZ16.out; omega)).mk_ MK1.out (by have z1 := HZ1.out; have z2 := HZ2.out; have z3 := HZ3.out; have z4 := HZ4.out; have z5 := HZ5.out; have z6 := HZ6.out; have z7 := HZ7.out; have z8 := HZ8.out; have z9 := HZ9.out; have z10 := HZ10.out; have z11 := HZ11.out; have z12 := HZ12.out; have z13 := HZ13.out; have z14 := HZ14.out; have z15 := HZ15.out; have z16 := HZ16.out; omega)).below B15.out).mk_ MN.out (by have z1 := HZ1.out; have z2 := HZ2.out; have z3 := HZ3.out; have z4 := HZ4.out; have z5 := HZ5.out; have z6 := HZ6.out; have z7 := HZ7.out; have z8 := HZ8.out; have z9 := HZ9.out; have z10 := HZ10.out; have z11 := HZ11.out; have z12 := HZ12.out; have z13 := HZ13.out; have z14 := HZ14.out; have z15 := HZ15.out; have z16 := HZ16.out; omega)).below hW)⟩
  go_cut [15, 16] (fun x y W => ∃ (A : Option Addr) (c : Nat), x = .slice A m.length c ∧ y = .bool ok ∧ Below wn.heap.size wn W ∧ OwnI W wn.heap.size (.slice A m.length c) m)
  case first =>
    go_region_held3 (fun W => (W.cell? ⟨w.heap.size, 0, none⟩ = some (.int .i64 D0) ∧ W.cell? ⟨w.heap.size, 1, none⟩ = some (.slice A0 rows0.length c0)) ∧ (W.cell? ⟨w.heap.size + 1, 0, none⟩ = some (.slice P1 N1.ends.length p1) ∧ W.cell? ⟨w.heap.size + 1, 1, none⟩ = some (.slice Q1 N1.ids.length q1) ∧ W.cell? ⟨w.heap.size + 1, 2, none⟩ = some (.slice R1 N1.inputs.length r1)))
      ((refine HKSt.out _ ?_; repeat (first | with_reducible exact hbr' | with_reducible exact hbb0' | with_reducible exact hbb1' | with_reducible exact Below.refl _ _ | with_reducible refine Below.drew ?_ | with_reducible refine Below.alloc_ ?_ _ | with_reducible refine Below.set_ ?_ ?_ _ | (simp; done) | omega)))
      (first
        | (go_at_call 11; refine (toTable_any _ D0 rows0 _ (HR0.out.below (Below.then_ (Marked.bel (Below.then_ (Marked.bel (Marked.bel (Below.then_ (Below.then_ (Below.then_ (Below.then_ (Below.then_ (Below.then_ (Below.then_ (Below.then_ (Below.then_ (Below.then_ (Below.then_ B1.out B2.out) B3.out) B4.out) B5.out) B6.out) B7.out) B8.out) B9.out) B10.out) B11.out) B12.out) MK0.out (by have z1 := HZ1.out; have z2 := HZ2.out; have z3 := HZ3.out; have z4 := HZ4.out; have z5 := HZ5.out; have z6 := HZ6.out; have z7 := HZ7.out; have z8 := HZ8.out; have z9 := HZ9.out; have z10 := HZ10.out; have z11 := HZ11.out; have z12 := HZ12.out; have z13 := HZ13.out; have z14 := HZ14.out; have z15 := HZ15.out; have z16 := HZ16.out; omega) (by have z1 := HZ1.out; have z2 := HZ2.out; have z3 := HZ3.out; have z4 := HZ4.out; have z5 := HZ5.out; have z6 := HZ6.out; have z7 := HZ7.out; have z8 := HZ8.out; have z9 := HZ9.out; have z10 := HZ10.out; have z11 := HZ11.out; have z12 := HZ12.out; have z13 := HZ13.out; have z14 := HZ14.out; have z15 := HZ15.out; have z16 := HZ16.out; omega)) MK1.out (by have z1 := HZ1.out; have z2 := HZ2.out; have z3 := HZ3.out; have z4 := HZ4.out; have z5 := HZ5.out; have z6 := HZ6.out; have z7 := HZ7.out; have z8 := HZ8.out; have z9 := HZ9.out; have z10 := HZ10.out; have z11 := HZ11.out; have z12 := HZ12.out; have z13 := HZ13.out; have z14 := HZ14.out; have z15 := HZ15.out; have z16 := HZ16.out; omega) (by have z1 := HZ1.out; have z2 := HZ2.out; have z3 := HZ3.out; have z4 := HZ4.out; have z5 := HZ5.out; have z6 := HZ6.out; have z7 := HZ7.out; have z8 := HZ8.out; have z9 := HZ9.out; have z10 := HZ10.out; have z11 := HZ11.out; have z12 := HZ12.out; have z13 := HZ13.out; have z14 := HZ14.out; have z15 := HZ15.out; have z16 := HZ16.out; omega)) B15.out) MN.out (by have z1 := HZ1.out; have z2 := HZ2.out; have z3 := HZ3.out; have z4 := HZ4.out; have z5 := HZ5.out; have z6 := HZ6.out; have z7 := HZ7.out; have z8 := HZ8.out; have z9 := HZ9.out; have z10 := HZ10.out; have z11 := HZ11.out; have z12 := HZ12.out; have z13 := HZ13.out; have z14 := HZ14.out; have z15 := HZ15.out; have z16 := HZ16.out; omega) (by have z1 := HZ1.out; have z2 := HZ2.out; have z3 := HZ3.out; have z4 := HZ4.out; have z5 := HZ5.out; have z6 := HZ6.out; have z7 := HZ7.out; have z8 := HZ8.out; have z9 := HZ9.out; have z10 := HZ10.out; have z11 := HZ11.out; have z12 := HZ12.out; have z13 := HZ13.out; have z14 := HZ14.out; have z15 := HZ15.out; have z16 := HZ16.out; omega)) (by repeat (first | with_reducible exact hbb0' | with_reducible exact hbb1' | with_reducible exact Below.refl _ _ | with_reducible refine Below.drew ?_ | with_reducible refine Below.alloc_ ?_ _ | with_reducible refine Below.set_ ?_ ?_ _ | (simp; done) | omega)))) (by omega)).mono ?_; rintro e wq0 ⟨Ax0, cx0, rfl, hob0, hbb0⟩; have hbb0' : Below wn.heap.size wn wq0 := Below.then_ (by repeat (first | with_reducible exact hbb0' | with_reducible exact hbb1' | with_reducible exact Below.refl _ _ | with_reducible refine Below.drew ?_ | with_reducible refine Below.alloc_ ?_ _ | with_reducible refine Below.set_ ?_ ?_ _ | (simp; done) | omega)) hbb0)
        | (go_at_call 12; refine (toNetwork_any _ N1 _ (HR1.out.below (Below.then_ (Marked.bel (Below.then_ (Marked.bel (Marked.bel (Below.then_ (Below.then_ (Below.then_ (Below.then_ (Below.then_ (Below.then_ (Below.then_ (Below.then_ (Below.then_ (Below.then_ (Below.then_ B1.out B2.out) B3.out) B4.out) B5.out) B6.out) B7.out) B8.out) B9.out) B10.out) B11.out) B12.out) MK0.out (by have z1 := HZ1.out; have z2 := HZ2.out; have z3 := HZ3.out; have z4 := HZ4.out; have z5 := HZ5.out; have z6 := HZ6.out; have z7 := HZ7.out; have z8 := HZ8.out; have z9 := HZ9.out; have z10 := HZ10.out; have z11 := HZ11.out; have z12 := HZ12.out; have z13 := HZ13.out; have z14 := HZ14.out; have z15 := HZ15.out; have z16 := HZ16.out; omega) (by have z1 := HZ1.out; have z2 := HZ2.out; have z3 := HZ3.out; have z4 := HZ4.out; have z5 := HZ5.out; have z6 := HZ6.out; have z7 := HZ7.out; have z8 := HZ8.out; have z9 := HZ9.out; have z10 := HZ10.out; have z11 := HZ11.out; have z12 := HZ12.out; have z13 := HZ13.out; have z14 := HZ14.out; have z15 := HZ15.out; have z16 := HZ16.out; omega)) MK1.out (by have z1 := HZ1.out; have z2 := HZ2.out; have z3 := HZ3.out; have z4 := HZ4.out; have z5 := HZ5.out; have z6 := HZ6.out; have z7 := HZ7.out; have z8 := HZ8.out; have z9 := HZ9.out; have z10 := HZ10.out; have z11 := HZ11.out; have z12 := HZ12.out; have z13 := HZ13.out; have z14 := HZ14.out; have z15 := HZ15.out; have z16 := HZ16.out; omega) (by have z1 := HZ1.out; have z2 := HZ2.out; have z3 := HZ3.out; have z4 := HZ4.out; have z5 := HZ5.out; have z6 := HZ6.out; have z7 := HZ7.out; have z8 := HZ8.out; have z9 := HZ9.out; have z10 := HZ10.out; have z11 := HZ11.out; have z12 := HZ12.out; have z13 := HZ13.out; have z14 := HZ14.out; have z15 := HZ15.out; have z16 := HZ16.out; omega)) B15.out) MN.out (by have z1 := HZ1.out; have z2 := HZ2.out; have z3 := HZ3.out; have z4 := HZ4.out; have z5 := HZ5.out; have z6 := HZ6.out; have z7 := HZ7.out; have z8 := HZ8.out; have z9 := HZ9.out; have z10 := HZ10.out; have z11 := HZ11.out; have z12 := HZ12.out; have z13 := HZ13.out; have z14 := HZ14.out; have z15 := HZ15.out; have z16 := HZ16.out; omega) (by have z1 := HZ1.out; have z2 := HZ2.out; have z3 := HZ3.out; have z4 := HZ4.out; have z5 := HZ5.out; have z6 := HZ6.out; have z7 := HZ7.out; have z8 := HZ8.out; have z9 := HZ9.out; have z10 := HZ10.out; have z11 := HZ11.out; have z12 := HZ12.out; have z13 := HZ13.out; have z14 := HZ14.out; have z15 := HZ15.out; have z16 := HZ16.out; omega)) (by repeat (first | with_reducible exact hbb0' | with_reducible exact hbb1' | with_reducible exact Below.refl _ _ | with_reducible refine Below.drew ?_ | with_reducible refine Below.alloc_ ?_ _ | with_reducible refine Below.set_ ?_ ?_ _ | (simp; done) | omega)))) HSN1.out).mono ?_; rintro e wq1 ⟨vx1, rfl, hob1, hbb1⟩; have hbb1' : Below wn.heap.size wn wq1 := Below.then_ (by repeat (first | with_reducible exact hbb0' | with_reducible exact hbb1' | with_reducible exact Below.refl _ _ | with_reducible refine Below.drew ?_ | with_reducible refine Below.alloc_ ?_ _ | with_reducible refine Below.set_ ?_ ?_ _ | (simp; done) | omega)) hbb1)
        | (go_at_call 22; refine (CM.out _ _ _ _ _ (by first | exact hob0.slrB | exact (hob0.below (hbb1)).slrB) (by first | exact hob1.net HSN1.out | exact (hob1.below (hbb0)).net HSN1.out)).mono ?_; rintro e wr ⟨Ar, cr, rfl, hbr, hor⟩; have hbr' : Below wn.heap.size wn wr := Below.then_ (by repeat (first | with_reducible exact hbb0' | with_reducible exact hbb1' | with_reducible exact Below.refl _ _ | with_reducible refine Below.drew ?_ | with_reducible refine Below.alloc_ ?_ _ | with_reducible refine Below.set_ ?_ ?_ _ | (simp; done) | omega)) hbr))
    all_goals
      go_wp2_with fail
      go_meet
      exact ⟨_, _, rfl, rfl, hbr', hor.mono (Below.size (by repeat (first | with_reducible exact hbb0' | with_reducible exact hbb1' | with_reducible exact Below.refl _ _ | with_reducible refine Below.drew ?_ | with_reducible refine Below.alloc_ ?_ _ | with_reducible refine Below.set_ ?_ ?_ _ | (simp; done) | omega)))⟩
  case rest =>
  obtain ⟨At, ct, rfl, rfl, hb, ho⟩ := hcut
  obtain ⟨wt, hwt⟩ : ∃ z, z = wc := ⟨_, rfl⟩
  rw [← hwt] at hb ho ⊢
  clear hwt
  have Ot := Lib.hid ho
  have Lt := Lib.hid fun g hg => (ho.lt g hg).2
  clear ho
  have B17 := Lib.hid hb
  have HZ17 := Lib.hid hb.size
  clear hb
  go_wp2_with fail
  refine (eqIntS_any _ _ m m _ (Ot.out).ints (((((((Os.out.below (Below.then_ (Below.then_ (Below.then_ (Below.then_ (Below.then_ (Below.then_ (Below.then_ B5.out B6.out) B7.out) B8.out) B9.out) B10.out) B11.out) B12.out)).mk_ MK0.out (fun g hg => by have h := Ls.out g hg; have z1 := HZ1.out; have z2 := HZ2.out; have z3 := HZ3.out; have z4 := HZ4.out; have z5 := HZ5.out; have z6 := HZ6.out; have z7 := HZ7.out; have z8 := HZ8.out; have z9 := HZ9.out; have z10 := HZ10.out; have z11 := HZ11.out; have z12 := HZ12.out; have z13 := HZ13.out; have z14 := HZ14.out; have z15 := HZ15.out; have z16 := HZ16.out; have z17 := HZ17.out; omega)).mk_ MK1.out (fun g hg => by have h := Ls.out g hg; have z1 := HZ1.out; have z2 := HZ2.out; have z3 := HZ3.out; have z4 := HZ4.out; have z5 := HZ5.out; have z6 := HZ6.out; have z7 := HZ7.out; have z8 := HZ8.out; have z9 := HZ9.out; have z10 := HZ10.out; have z11 := HZ11.out; have z12 := HZ12.out; have z13 := HZ13.out; have z14 := HZ14.out; have z15 := HZ15.out; have z16 := HZ16.out; have z17 := HZ17.out; omega)).below B15.out).mk_ MN.out (fun g hg => by have h := Ls.out g hg; have z1 := HZ1.out; have z2 := HZ2.out; have z3 := HZ3.out; have z4 := HZ4.out; have z5 := HZ5.out; have z6 := HZ6.out; have z7 := HZ7.out; have z8 := HZ8.out; have z9 := HZ9.out; have z10 := HZ10.out; have z11 := HZ11.out; have z12 := HZ12.out; have z13 := HZ13.out; have z14 := HZ14.out; have z15 := HZ15.out; have z16 := HZ16.out; have z17 := HZ17.out; omega)).below B17.out)).ints).mono ?_
  rw [sameB_refl]
  rintro e we3 ⟨rfl, hb⟩
  replace hb : Below wt.heap.size wt we3 := by obtain ⟨n, rfl⟩ := hb; exact below_drewN (Below.refl _ _) n
  have B18 := Lib.hid hb
  have HZ18 := Lib.hid hb.size
  clear hb
  go_wp2_with fail
  refine (heldIntS_any _ _ 1 m.length _ (On.out.below (Below.then_ B17.out B18.out)) (by omega) (by omega) (by omega)).mono ?_
  rintro e wh2 ⟨rfl, rfl⟩
  go_wp2_with fail
  go_ret
  exact ⟨rfl, (Below.then_ (Below.then_ (Marked.bel (Below.then_ (Marked.bel (Marked.bel (Below.then_ (Below.then_ (Below.then_ (Below.then_ (Below.then_ (Below.then_ (Below.then_ (Below.then_ (Below.then_ (Below.then_ (Below.then_ B1.out B2.out) B3.out) B4.out) B5.out) B6.out) B7.out) B8.out) B9.out) B10.out) B11.out) B12.out) MK0.out (by have z1 := HZ1.out; have z2 := HZ2.out; have z3 := HZ3.out; have z4 := HZ4.out; have z5 := HZ5.out; have z6 := HZ6.out; have z7 := HZ7.out; have z8 := HZ8.out; have z9 := HZ9.out; have z10 := HZ10.out; have z11 := HZ11.out; have z12 := HZ12.out; have z13 := HZ13.out; have z14 := HZ14.out; have z15 := HZ15.out; have z16 := HZ16.out; have z17 := HZ17.out; have z18 := HZ18.out; omega) (by have z1 := HZ1.out; have z2 := HZ2.out; have z3 := HZ3.out; have z4 := HZ4.out; have z5 := HZ5.out; have z6 := HZ6.out; have z7 := HZ7.out; have z8 := HZ8.out; have z9 := HZ9.out; have z10 := HZ10.out; have z11 := HZ11.out; have z12 := HZ12.out; have z13 := HZ13.out; have z14 := HZ14.out; have z15 := HZ15.out; have z16 := HZ16.out; have z17 := HZ17.out; have z18 := HZ18.out; omega)) MK1.out (by have z1 := HZ1.out; have z2 := HZ2.out; have z3 := HZ3.out; have z4 := HZ4.out; have z5 := HZ5.out; have z6 := HZ6.out; have z7 := HZ7.out; have z8 := HZ8.out; have z9 := HZ9.out; have z10 := HZ10.out; have z11 := HZ11.out; have z12 := HZ12.out; have z13 := HZ13.out; have z14 := HZ14.out; have z15 := HZ15.out; have z16 := HZ16.out; have z17 := HZ17.out; have z18 := HZ18.out; omega) (by have z1 := HZ1.out; have z2 := HZ2.out; have z3 := HZ3.out; have z4 := HZ4.out; have z5 := HZ5.out; have z6 := HZ6.out; have z7 := HZ7.out; have z8 := HZ8.out; have z9 := HZ9.out; have z10 := HZ10.out; have z11 := HZ11.out; have z12 := HZ12.out; have z13 := HZ13.out; have z14 := HZ14.out; have z15 := HZ15.out; have z16 := HZ16.out; have z17 := HZ17.out; have z18 := HZ18.out; omega)) B15.out) MN.out (by have z1 := HZ1.out; have z2 := HZ2.out; have z3 := HZ3.out; have z4 := HZ4.out; have z5 := HZ5.out; have z6 := HZ6.out; have z7 := HZ7.out; have z8 := HZ8.out; have z9 := HZ9.out; have z10 := HZ10.out; have z11 := HZ11.out; have z12 := HZ12.out; have z13 := HZ13.out; have z14 := HZ14.out; have z15 := HZ15.out; have z16 := HZ16.out; have z17 := HZ17.out; have z18 := HZ18.out; omega) (by have z1 := HZ1.out; have z2 := HZ2.out; have z3 := HZ3.out; have z4 := HZ4.out; have z5 := HZ5.out; have z6 := HZ6.out; have z7 := HZ7.out; have z8 := HZ8.out; have z9 := HZ9.out; have z10 := HZ10.out; have z11 := HZ11.out; have z12 := HZ12.out; have z13 := HZ13.out; have z14 := HZ14.out; have z15 := HZ15.out; have z16 := HZ16.out; have z17 := HZ17.out; have z18 := HZ18.out; omega)) B17.out) B18.out)⟩
end Go.Proofs.YtjoimponfeofkaaGreat
