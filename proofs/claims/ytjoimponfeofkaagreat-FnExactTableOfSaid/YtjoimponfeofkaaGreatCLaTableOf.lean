/- The statement's function FnExactTableOf returns true for all arguments, and writes nothing that was there. -/
import Derived.Test.YtjoimponfeofkaaGreatCJn31
import Derived.Test.YtjoimponfeofkaaGreatCJn30
import Derived.Deep.RegionHeld3
namespace Go.Proofs.YtjoimponfeofkaaGreat
open Go.RowKit


set_option maxRecDepth 100000 in
set_option maxHeartbeats 16000000 in
theorem lawTableOf (v0 : Value) (N0 : Net) (k1 : Int) (y2 : Value) (xs2 : List Int) (w : World) (h0 : NetR w anyB v0 N0) (h2 : IntsR w anyB y2 xs2) :
    Calls Tryz.prog 5 #[v0, .int .i64 k1, y2] w (RetV w (.bool true)) := by
  have HR0 := Lib.hid h0
  obtain ⟨ve0, vi0, vn0, rfl, he0, hi0, hn0⟩ := h0
  obtain ⟨P0, p0, rfl, -, -, -⟩ := he0
  obtain ⟨Q0, q0, rfl, -, -, -⟩ := hi0
  obtain ⟨R0, r0, rfl, -, -, -⟩ := hn0
  have hbd2 := h2.bound
  have HR2 := Lib.hid h2
  obtain ⟨A2, c2, rfl, -, -, -⟩ := h2
  obtain ⟨x, hx⟩ : ∃ x, x = tofT N0 k1 xs2 := ⟨_, rfl⟩
  have B1 := Lib.hid ((Below.refl w.heap.size w).alloc (Nat.le_refl _) (.cells #[.slice P0 N0.ends.length p0, .slice Q0 N0.ids.length q0, .slice R0 N0.inputs.length r0] 28))
  have KA0 : Hid (Blk (w.alloc (.cells #[.slice P0 N0.ends.length p0, .slice Q0 N0.ids.length q0, .slice R0 N0.inputs.length r0] 28)) (w.heap.size) 28 #[.slice P0 N0.ends.length p0, .slice Q0 N0.ids.length q0, .slice R0 N0.inputs.length r0]) := Lib.hid (by have := Blk.new w 28 #[.slice P0 N0.ends.length p0, .slice Q0 N0.ids.length q0, .slice R0 N0.inputs.length r0]; simpa using this)
  have HZ1 : Hid ((w.alloc (.cells #[.slice P0 N0.ends.length p0, .slice Q0 N0.ids.length q0, .slice R0 N0.inputs.length r0] 28)).heap.size = w.heap.size + 1) := Lib.hid (by simp)
  by_cases hls2 : 1048576 < xs2.length
  · go_enter Tryz.func5, Tryz.ntmps5
    go_wp2_with fail
    go_ret
    exact ⟨rfl, B1.out⟩
  go_enter Tryz.func5, Tryz.ntmps5
  go_wp2_with fail
  generalize w.alloc (.cells #[.slice P0 N0.ends.length p0, .slice Q0 N0.ids.length q0, .slice R0 N0.inputs.length r0] 28) = w1 at *
  refine (szNetwork_any _ N0 1048576 _ (HR0.out.below B1.out) (by omega) (by omega)).mono ?_
  rintro e ws0 ⟨lf0, rfl, lfa0, lfb0, hsh0, hb⟩
  have B2 := Lib.hid hb
  have HZ2 := Lib.hid hb.size
  clear hb
  have HSH0 := Lib.hid hsh0
  clear hsh0
  by_cases hneg0 : lf0 < 0
  · go_wp2_with fail
    go_ret
    exact ⟨rfl, (Below.then_ B1.out B2.out)⟩
  have HSN0 := Lib.hid (HSH0.out (by omega))
  have hid0 : N0.ids.length ≤ 2097152 := by have := HSN0.out.2.1; omega
  obtain ⟨d, hd⟩ : ∃ d, d = aD x (k1) := ⟨_, rfl⟩
  obtain ⟨m, hm⟩ : ∃ m, m = aM x := ⟨_, rfl⟩
  obtain ⟨ok, hok⟩ : ∃ ok, ok = x.isSome := ⟨_, rfl⟩
  have hlen : m.length ≤ 4096 := by rw [hm, hx]; exact tofT_len N0 k1 xs2
  have CS : Hid (∀ (U0 : Value) (T0 : Nat → Prop) (U2 : Value) (T2 : Nat → Prop) (W : World), NetR W T0 U0 N0 → IntsR W T2 U2 xs2 → Calls Tryz.prog 23 #[U0, .int .i64 k1, U2] W fun e w' => ∃ A c, e = .returned (.tuple #[.agg #[.int .i64 d, .slice A m.length c], .bool ok]) ∧ Below W.heap.size W w' ∧ SlR encR w' (fun b => W.heap.size ≤ b ∧ b < w'.heap.size) (.slice A m.length c) m) := Lib.hid fun U0 T0 U2 T2 W g0 g2 => (TableOf_ref U0 U2 N0 k1 xs2 W g0 g2).mono fun e w' h => by
    rw [hd, hm, hok, hx]
    exact h.out_
  have CM : Hid (∀ (U0 : Value) (T0 : Nat → Prop) (U2 : Value) (T2 : Nat → Prop) (W : World), NetR W T0 U0 N0 → IntsR W T2 U2 xs2 → Calls Tryz.prog 25 #[U0, .int .i64 k1, U2] W fun e w' => ∃ A c, e = .returned (.tuple #[.agg #[.int .i64 d, .slice A m.length c], .bool ok]) ∧ Below W.heap.size W w' ∧ OwnG encR 76 w' W.heap.size (.slice A m.length c) m) := Lib.hid fun U0 T0 U2 T2 W g0 g2 => (TableOf_any U0 U2 N0 k1 xs2 W g0 g2 hid0).mono fun e w' h => by
    rw [hd, hm, hok, hx]
    exact h.out_
  clear hx hm hok hd
  have eok : (ok != ok) = false := by simp
  have kk1 := ((KA0.out.below B2.out)).cell
  have kk1z : w.heap.size < ws0.heap.size := (by have z1 := HZ1.out; have z2 := HZ2.out; omega)
  go_wp2_with fail
  clear kk1 kk1z
  refine (toNetwork_any _ N0 _ (HR0.out.below (Below.then_ B1.out B2.out)) HSN0.out).mono ?_
  rintro e wsc0 ⟨vxsc0, rfl, ho, hb⟩
  have Osc0 := Lib.hid ho
  clear ho
  have B3 := Lib.hid hb
  have HZ3 := Lib.hid hb.size
  clear hb
  go_wp2_with fail
  refine (toIntS_any _ xs2 _ (HR2.out.below (Below.then_ (Below.then_ B1.out B2.out) B3.out)) (by omega)).mono ?_
  rintro e wsc2 ⟨vxsc2, rfl, ho, hb⟩
  have Osc2 := Lib.hid ho
  have Lsc2 := Lib.hid fun g hg => (ho.lt g hg).2
  have Msc2 := Lib.hid fun g hg => (ho.lt g hg).1
  clear ho
  have B4 := Lib.hid hb
  have HZ4 := Lib.hid hb.size
  clear hb
  go_wp2_with fail
  refine (CS.out _ _ _ _ _ ((Osc0.out.below B4.out).net HSN0.out) (Osc2.out.below (Below.refl _ _)).ints).mono ?_
  rintro e ws ⟨As, cs, rfl, hb, ho⟩
  have Os := Lib.hid ho
  clear ho
  have B5 := Lib.hid hb
  have HZ5 := Lib.hid hb.size
  clear hb
  have Os' := Lib.hid (Os.out.weak (S' := fun b => b < ws.heap.size) fun b h => h.2)
  clear Os
  have Os := Os'
  clear Os'
  have B6 : Hid (Below ws.heap.size ws (ws.alloc (.cells #[.int .i64 d, .slice As m.length cs] 35))) := Lib.hid ((Below.refl _ _).alloc (Nat.le_refl _) _)
  have HZ6 : Hid ((ws.alloc (.cells #[.int .i64 d, .slice As m.length cs] 35)).heap.size = ws.heap.size + 1) := Lib.hid (by simp)
  have Ks := Lib.hid (Blk.new ws 35 #[.int .i64 d, .slice As m.length cs])
  have kk2 := ((KA0.out.below (Below.then_ (Below.then_ (Below.then_ B2.out B3.out) B4.out) B5.out))).cell
  have kk2z : w.heap.size < ws.heap.size := (by have z1 := HZ1.out; have z2 := HZ2.out; have z3 := HZ3.out; have z4 := HZ4.out; have z5 := HZ5.out; omega)
  go_wp2_with fail
  clear kk2 kk2z
  generalize ws.alloc (.cells #[.int .i64 d, .slice As m.length cs] 35) = wsb at *
  refine (toNetwork_any _ N0 _ (HR0.out.below (Below.then_ (Below.then_ (Below.then_ (Below.then_ (Below.then_ B1.out B2.out) B3.out) B4.out) B5.out) B6.out)) HSN0.out).mono ?_
  rintro e wa0 ⟨vxa0, rfl, ho, hb⟩
  have Oa0 := Lib.hid ho
  obtain ⟨xe, xi, xn, rfl, hxe, hxi, hxn⟩ := ho
  obtain ⟨E0, e0, rfl⟩ := hxe.shape
  obtain ⟨F0, f0, rfl⟩ := hxi.shape
  obtain ⟨G0, g0, rfl⟩ := hxn.shape
  clear hxe hxi hxn
  have B7 := Lib.hid hb
  have HZ7 := Lib.hid hb.size
  clear hb
  have B8 : Hid (Below wa0.heap.size wa0 (wa0.alloc (.cells #[.slice E0 N0.ends.length e0, .slice F0 N0.ids.length f0, .slice G0 N0.inputs.length g0] 39))) := Lib.hid ((Below.refl _ _).alloc (Nat.le_refl _) _)
  have HZ8 : Hid ((wa0.alloc (.cells #[.slice E0 N0.ends.length e0, .slice F0 N0.ids.length f0, .slice G0 N0.inputs.length g0] 39)).heap.size = wa0.heap.size + 1) := Lib.hid (by simp)
  have KX0 := Lib.hid (Blk.new wa0 39 #[.slice E0 N0.ends.length e0, .slice F0 N0.ids.length f0, .slice G0 N0.inputs.length g0])
  go_wp2_with fail
  generalize wa0.alloc (.cells #[.slice E0 N0.ends.length e0, .slice F0 N0.ids.length f0, .slice G0 N0.inputs.length g0] 39) = wb0 at *
  refine (toIntS_any _ xs2 _ (HR2.out.below (Below.then_ (Below.then_ (Below.then_ (Below.then_ (Below.then_ (Below.then_ (Below.then_ B1.out B2.out) B3.out) B4.out) B5.out) B6.out) B7.out) B8.out)) (by omega)).mono ?_
  rintro e wa2 ⟨vxa2, rfl, ho, hb⟩
  have Oa2 := Lib.hid ho
  have La2 := Lib.hid fun g hg => (ho.lt g hg).2
  have Ma2 := Lib.hid fun g hg => (ho.lt g hg).1
  clear ho
  have B9 := Lib.hid hb
  have HZ9 := Lib.hid hb.size
  clear hb
  have kk3 := ((KX0.out.below B9.out)).cell
  have kk3z : wa0.heap.size < wa2.heap.size := (by have z1 := HZ1.out; have z2 := HZ2.out; have z3 := HZ3.out; have z4 := HZ4.out; have z5 := HZ5.out; have z6 := HZ6.out; have z7 := HZ7.out; have z8 := HZ8.out; have z9 := HZ9.out; omega)
  go_wp2_with fail
  clear kk3 kk3z
  refine (CM.out _ _ _ _ _ ((Oa0.out.below (Below.then_ B8.out B9.out)).net HSN0.out) (Oa2.out.below (Below.refl _ _)).ints).mono ?_
  rintro e wg ⟨Ag, cg, rfl, hb, ho⟩
  have Og := Lib.hid ho
  have Lg := Lib.hid fun g hg => (ho.lt g hg).2
  have Mg := Lib.hid fun g hg => (ho.lt g hg).1
  clear ho
  have B10 := Lib.hid hb
  have HZ10 := Lib.hid hb.size
  clear hb
  have B11 : Hid (Below wg.heap.size wg (wg.alloc (.cells #[.int .i64 d, .slice Ag m.length cg] 35))) := Lib.hid ((Below.refl _ _).alloc (Nat.le_refl _) _)
  have HZ11 : Hid ((wg.alloc (.cells #[.int .i64 d, .slice Ag m.length cg] 35)).heap.size = wg.heap.size + 1) := Lib.hid (by simp)
  have Kg := Lib.hid (Blk.new wg 35 #[.int .i64 d, .slice Ag m.length cg])
  have kk4 := ((Ks.out.below (Below.then_ (Below.then_ (Below.then_ B7.out B8.out) B9.out) B10.out))).cell
  have kk4z : ws.heap.size < wg.heap.size := (by have z1 := HZ1.out; have z2 := HZ2.out; have z3 := HZ3.out; have z4 := HZ4.out; have z5 := HZ5.out; have z6 := HZ6.out; have z7 := HZ7.out; have z8 := HZ8.out; have z9 := HZ9.out; have z10 := HZ10.out; omega)
  go_wp2_with fail
  clear kk4 kk4z
  generalize wg.alloc (.cells #[.int .i64 d, .slice Ag m.length cg] 35) = wgb at *
  refine (eqTable_same _ _ d m _ ((Og.out.below B11.out)).slrB ((Os.out.below (Below.then_ (Below.then_ (Below.then_ (Below.then_ (Below.then_ B6.out B7.out) B8.out) B9.out) B10.out) B11.out)))).mono ?_
  rintro e we1 ⟨rfl, hb⟩
  have B12 := Lib.hid hb
  have HZ12 := Lib.hid hb.size
  clear hb
  go_wp2_with fail
  have HKK0 : Hid (∀ W, Below we1.heap.size we1 W → (W.cell? ⟨wa0.heap.size, 0, none⟩ = some (.slice E0 N0.ends.length e0) ∧ W.cell? ⟨wa0.heap.size, 1, none⟩ = some (.slice F0 N0.ids.length f0) ∧ W.cell? ⟨wa0.heap.size, 2, none⟩ = some (.slice G0 N0.inputs.length g0)) ∧ (W.cell? ⟨w.heap.size, 0, none⟩ = some (.slice P0 N0.ends.length p0) ∧ W.cell? ⟨w.heap.size, 1, none⟩ = some (.slice Q0 N0.ids.length q0) ∧ W.cell? ⟨w.heap.size, 2, none⟩ = some (.slice R0 N0.inputs.length r0))) := Lib.hid fun W hW => ⟨mNet_cells ((KX0.out.below (Below.then_ (Below.then_ (Below.then_ B9.out B10.out) B11.out) B12.out)).below hW), mNet_cells ((KA0.out.below (Below.then_ (Below.then_ (Below.then_ (Below.then_ (Below.then_ (Below.then_ (Below.then_ (Below.then_ (Below.then_ (Below.then_ B2.out B3.out) B4.out) B5.out) B6.out) B7.out) B8.out) B9.out) B10.out) B11.out) B12.out)).below hW)⟩
  go_region_held3 (fun W => (W.cell? ⟨wa0.heap.size, 0, none⟩ = some (.slice E0 N0.ends.length e0) ∧ W.cell? ⟨wa0.heap.size, 1, none⟩ = some (.slice F0 N0.ids.length f0) ∧ W.cell? ⟨wa0.heap.size, 2, none⟩ = some (.slice G0 N0.inputs.length g0)) ∧ (W.cell? ⟨w.heap.size, 0, none⟩ = some (.slice P0 N0.ends.length p0) ∧ W.cell? ⟨w.heap.size, 1, none⟩ = some (.slice Q0 N0.ids.length q0) ∧ W.cell? ⟨w.heap.size, 2, none⟩ = some (.slice R0 N0.inputs.length r0)))
    ((refine HKK0.out _ ?_; repeat (first | with_reducible exact hbc' | with_reducible exact hbb' | with_reducible exact Below.refl _ _ | with_reducible refine Below.drew ?_ | with_reducible refine Below.alloc_ ?_ _)))
    (first
      | (go_at_call 12; refine (toNetwork_any _ N0 _ (HR0.out.below (Below.then_ (Below.then_ (Below.then_ (Below.then_ (Below.then_ (Below.then_ (Below.then_ (Below.then_ (Below.then_ (Below.then_ (Below.then_ (Below.then_ B1.out B2.out) B3.out) B4.out) B5.out) B6.out) B7.out) B8.out) B9.out) B10.out) B11.out) B12.out) (by repeat (first | with_reducible exact hbc' | with_reducible exact hbb' | with_reducible exact Below.refl _ _ | with_reducible refine Below.drew ?_ | with_reducible refine Below.alloc_ ?_ _)))) HSN0.out).mono ?_; rintro e wb ⟨vb, rfl, hob, hbb⟩; have hbb' : Below we1.heap.size we1 wb := Below.then_ (by repeat (first | with_reducible exact hbc' | with_reducible exact hbb' | with_reducible exact Below.refl _ _ | with_reducible refine Below.drew ?_ | with_reducible refine Below.alloc_ ?_ _)) hbb)
      | (go_at_call 16; refine (eqNetwork_any _ _ N0 N0 _ ((((Oa0.out.below (Below.then_ (Below.then_ (Below.then_ (Below.then_ B8.out B9.out) B10.out) B11.out) B12.out))).below (by repeat (first | with_reducible exact hbc' | with_reducible exact hbb' | with_reducible exact Below.refl _ _ | with_reducible refine Below.drew ?_ | with_reducible refine Below.alloc_ ?_ _))).net HSN0.out) (hob.net HSN0.out)).mono ?_; rw [sameN_refl]; rintro e wc ⟨rfl, hbc⟩; have hbc' : Below we1.heap.size we1 wc := Below.then_ hbb' hbc))
  obtain ⟨wc0, hwc⟩ : ∃ z, z = wc := ⟨_, rfl⟩
  rw [← hwc] at hbc' ⊢
  clear hwc hbb hbb' hbc hob
  have hb := hbc'
  clear hbc'
  have B13 := Lib.hid hb
  have HZ13 := Lib.hid hb.size
  clear hb
  go_wp2_with fail
  refine (toIntS_any _ xs2 _ (HR2.out.below (Below.then_ (Below.then_ (Below.then_ (Below.then_ (Below.then_ (Below.then_ (Below.then_ (Below.then_ (Below.then_ (Below.then_ (Below.then_ (Below.then_ B1.out B2.out) B3.out) B4.out) B5.out) B6.out) B7.out) B8.out) B9.out) B10.out) B11.out) B12.out) B13.out)) (by omega)).mono ?_
  rintro e wk2 ⟨vxk2, rfl, ho, hb⟩
  have Ok2 := Lib.hid ho
  have Lk2 := Lib.hid fun g hg => (ho.lt g hg).2
  have Mk2 := Lib.hid fun g hg => (ho.lt g hg).1
  clear ho
  have B14 := Lib.hid hb
  have HZ14 := Lib.hid hb.size
  clear hb
  go_wp2_with fail
  refine (eqIntS_any _ _ xs2 xs2 _ ((Oa2.out.below (Below.then_ (Below.then_ (Below.then_ (Below.then_ B10.out B11.out) B12.out) B13.out) B14.out))).ints (Ok2.out).ints).mono ?_
  rw [sameB_refl]
  rintro e wc2 ⟨rfl, hb⟩
  replace hb : Below wk2.heap.size wk2 wc2 := by obtain ⟨n, rfl⟩ := hb; exact below_drewN (Below.refl _ _) n
  have B15 := Lib.hid hb
  have HZ15 := Lib.hid hb.size
  clear hb
  have kk5 := ((KX0.out.below (Below.then_ (Below.then_ (Below.then_ (Below.then_ (Below.then_ (Below.then_ B9.out B10.out) B11.out) B12.out) B13.out) B14.out) B15.out))).cell
  have kk5z : wa0.heap.size < wc2.heap.size := (by have z1 := HZ1.out; have z2 := HZ2.out; have z3 := HZ3.out; have z4 := HZ4.out; have z5 := HZ5.out; have z6 := HZ6.out; have z7 := HZ7.out; have z8 := HZ8.out; have z9 := HZ9.out; have z10 := HZ10.out; have z11 := HZ11.out; have z12 := HZ12.out; have z13 := HZ13.out; have z14 := HZ14.out; have z15 := HZ15.out; omega)
  go_wp2_with fail
  clear kk5 kk5z
  refine (markNetwork_at wsb.heap.size _ N0 1 wa0 _ Oa0.out HSN0.out (by have z1 := HZ1.out; have z2 := HZ2.out; have z3 := HZ3.out; have z4 := HZ4.out; have z5 := HZ5.out; have z6 := HZ6.out; have z7 := HZ7.out; have z8 := HZ8.out; have z9 := HZ9.out; have z10 := HZ10.out; have z11 := HZ11.out; have z12 := HZ12.out; have z13 := HZ13.out; have z14 := HZ14.out; have z15 := HZ15.out; omega) (fun b ha hb => ((B15.out.block b (by have z1 := HZ1.out; have z2 := HZ2.out; have z3 := HZ3.out; have z4 := HZ4.out; have z5 := HZ5.out; have z6 := HZ6.out; have z7 := HZ7.out; have z8 := HZ8.out; have z9 := HZ9.out; have z10 := HZ10.out; have z11 := HZ11.out; have z12 := HZ12.out; have z13 := HZ13.out; have z14 := HZ14.out; have z15 := HZ15.out; omega)).trans ((B14.out.block b (by have z1 := HZ1.out; have z2 := HZ2.out; have z3 := HZ3.out; have z4 := HZ4.out; have z5 := HZ5.out; have z6 := HZ6.out; have z7 := HZ7.out; have z8 := HZ8.out; have z9 := HZ9.out; have z10 := HZ10.out; have z11 := HZ11.out; have z12 := HZ12.out; have z13 := HZ13.out; have z14 := HZ14.out; have z15 := HZ15.out; omega)).trans ((B13.out.block b (by have z1 := HZ1.out; have z2 := HZ2.out; have z3 := HZ3.out; have z4 := HZ4.out; have z5 := HZ5.out; have z6 := HZ6.out; have z7 := HZ7.out; have z8 := HZ8.out; have z9 := HZ9.out; have z10 := HZ10.out; have z11 := HZ11.out; have z12 := HZ12.out; have z13 := HZ13.out; have z14 := HZ14.out; have z15 := HZ15.out; omega)).trans ((B12.out.block b (by have z1 := HZ1.out; have z2 := HZ2.out; have z3 := HZ3.out; have z4 := HZ4.out; have z5 := HZ5.out; have z6 := HZ6.out; have z7 := HZ7.out; have z8 := HZ8.out; have z9 := HZ9.out; have z10 := HZ10.out; have z11 := HZ11.out; have z12 := HZ12.out; have z13 := HZ13.out; have z14 := HZ14.out; have z15 := HZ15.out; omega)).trans ((B11.out.block b (by have z1 := HZ1.out; have z2 := HZ2.out; have z3 := HZ3.out; have z4 := HZ4.out; have z5 := HZ5.out; have z6 := HZ6.out; have z7 := HZ7.out; have z8 := HZ8.out; have z9 := HZ9.out; have z10 := HZ10.out; have z11 := HZ11.out; have z12 := HZ12.out; have z13 := HZ13.out; have z14 := HZ14.out; have z15 := HZ15.out; omega)).trans ((B10.out.block b (by have z1 := HZ1.out; have z2 := HZ2.out; have z3 := HZ3.out; have z4 := HZ4.out; have z5 := HZ5.out; have z6 := HZ6.out; have z7 := HZ7.out; have z8 := HZ8.out; have z9 := HZ9.out; have z10 := HZ10.out; have z11 := HZ11.out; have z12 := HZ12.out; have z13 := HZ13.out; have z14 := HZ14.out; have z15 := HZ15.out; omega)).trans ((B9.out.block b (by have z1 := HZ1.out; have z2 := HZ2.out; have z3 := HZ3.out; have z4 := HZ4.out; have z5 := HZ5.out; have z6 := HZ6.out; have z7 := HZ7.out; have z8 := HZ8.out; have z9 := HZ9.out; have z10 := HZ10.out; have z11 := HZ11.out; have z12 := HZ12.out; have z13 := HZ13.out; have z14 := HZ14.out; have z15 := HZ15.out; omega)).trans (B8.out.block b (by have z1 := HZ1.out; have z2 := HZ2.out; have z3 := HZ3.out; have z4 := HZ4.out; have z5 := HZ5.out; have z6 := HZ6.out; have z7 := HZ7.out; have z8 := HZ8.out; have z9 := HZ9.out; have z10 := HZ10.out; have z11 := HZ11.out; have z12 := HZ12.out; have z13 := HZ13.out; have z14 := HZ14.out; have z15 := HZ15.out; omega)))))))))) (by omega) (by omega)).mono ?_
  rintro e wm0 ⟨km0, rfl, km0a, km0b, hm⟩
  have MK0 := Lib.hid hm
  clear hm
  have km0c : ¬ km0 < 0 := by omega
  have HZ16 := Lib.hid MK0.out.size
  go_wp2_with fail
  refine (markIntS_any _ _ xs2 km0 _ ((Oa2.out.below (Below.then_ (Below.then_ (Below.then_ (Below.then_ (Below.then_ B10.out B11.out) B12.out) B13.out) B14.out) B15.out)).mk_ MK0.out (fun g hg => by have h := La2.out g hg; have h2 := Ma2.out g hg; have z1 := HZ1.out; have z2 := HZ2.out; have z3 := HZ3.out; have z4 := HZ4.out; have z5 := HZ5.out; have z6 := HZ6.out; have z7 := HZ7.out; have z8 := HZ8.out; have z9 := HZ9.out; have z10 := HZ10.out; have z11 := HZ11.out; have z12 := HZ12.out; have z13 := HZ13.out; have z14 := HZ14.out; have z15 := HZ15.out; have z16 := HZ16.out; omega)) (by omega) (by omega) (by omega)).mono ?_
  rintro e wm2 ⟨rfl, -, hg, -⟩
  have MK2 : Hid (Marked wb0.heap.size wa2.heap.size wm0 wm2) := Lib.hid (Marked.of_grown hg fun g hg => ⟨Ma2.out g hg, La2.out g hg⟩)
  obtain ⟨km2, hkm2⟩ : ∃ z : Int, z = km0 + (xs2.length : Int) := ⟨_, rfl⟩
  rw [← hkm2]
  have km2a : 0 ≤ km2 := by omega
  have km2c : ¬ km2 < 0 := by omega
  clear hkm2 hg
  have HZ17 := Lib.hid MK2.out.size
  have kk6 := ((((Kg.out.below (Below.then_ (Below.then_ (Below.then_ B12.out B13.out) B14.out) B15.out)).mk_ MK0.out (by have z1 := HZ1.out; have z2 := HZ2.out; have z3 := HZ3.out; have z4 := HZ4.out; have z5 := HZ5.out; have z6 := HZ6.out; have z7 := HZ7.out; have z8 := HZ8.out; have z9 := HZ9.out; have z10 := HZ10.out; have z11 := HZ11.out; have z12 := HZ12.out; have z13 := HZ13.out; have z14 := HZ14.out; have z15 := HZ15.out; have z16 := HZ16.out; have z17 := HZ17.out; omega)).mk_ MK2.out (by have z1 := HZ1.out; have z2 := HZ2.out; have z3 := HZ3.out; have z4 := HZ4.out; have z5 := HZ5.out; have z6 := HZ6.out; have z7 := HZ7.out; have z8 := HZ8.out; have z9 := HZ9.out; have z10 := HZ10.out; have z11 := HZ11.out; have z12 := HZ12.out; have z13 := HZ13.out; have z14 := HZ14.out; have z15 := HZ15.out; have z16 := HZ16.out; have z17 := HZ17.out; omega))).cell
  have kk6z : wg.heap.size < wm2.heap.size := (by have z1 := HZ1.out; have z2 := HZ2.out; have z3 := HZ3.out; have z4 := HZ4.out; have z5 := HZ5.out; have z6 := HZ6.out; have z7 := HZ7.out; have z8 := HZ8.out; have z9 := HZ9.out; have z10 := HZ10.out; have z11 := HZ11.out; have z12 := HZ12.out; have z13 := HZ13.out; have z14 := HZ14.out; have z15 := HZ15.out; have z16 := HZ16.out; have z17 := HZ17.out; omega)
  have kk7 := ((((Ks.out.below (Below.then_ (Below.then_ (Below.then_ (Below.then_ (Below.then_ (Below.then_ (Below.then_ (Below.then_ B7.out B8.out) B9.out) B10.out) B11.out) B12.out) B13.out) B14.out) B15.out)).mk_ MK0.out (by have z1 := HZ1.out; have z2 := HZ2.out; have z3 := HZ3.out; have z4 := HZ4.out; have z5 := HZ5.out; have z6 := HZ6.out; have z7 := HZ7.out; have z8 := HZ8.out; have z9 := HZ9.out; have z10 := HZ10.out; have z11 := HZ11.out; have z12 := HZ12.out; have z13 := HZ13.out; have z14 := HZ14.out; have z15 := HZ15.out; have z16 := HZ16.out; have z17 := HZ17.out; omega)).mk_ MK2.out (by have z1 := HZ1.out; have z2 := HZ2.out; have z3 := HZ3.out; have z4 := HZ4.out; have z5 := HZ5.out; have z6 := HZ6.out; have z7 := HZ7.out; have z8 := HZ8.out; have z9 := HZ9.out; have z10 := HZ10.out; have z11 := HZ11.out; have z12 := HZ12.out; have z13 := HZ13.out; have z14 := HZ14.out; have z15 := HZ15.out; have z16 := HZ16.out; have z17 := HZ17.out; omega))).cell
  have kk7z : ws.heap.size < wm2.heap.size := (by have z1 := HZ1.out; have z2 := HZ2.out; have z3 := HZ3.out; have z4 := HZ4.out; have z5 := HZ5.out; have z6 := HZ6.out; have z7 := HZ7.out; have z8 := HZ8.out; have z9 := HZ9.out; have z10 := HZ10.out; have z11 := HZ11.out; have z12 := HZ12.out; have z13 := HZ13.out; have z14 := HZ14.out; have z15 := HZ15.out; have z16 := HZ16.out; have z17 := HZ17.out; omega)
  go_wp2_with fail
  clear kk6 kk6z kk7 kk7z
  refine (eqTable_same _ _ d m _ ((((Og.out.below (Below.then_ (Below.then_ (Below.then_ (Below.then_ B11.out B12.out) B13.out) B14.out) B15.out)).mk_ MK0.out (fun g hg => by have h := Lg.out g hg; have h2 := Mg.out g hg; have z1 := HZ1.out; have z2 := HZ2.out; have z3 := HZ3.out; have z4 := HZ4.out; have z5 := HZ5.out; have z6 := HZ6.out; have z7 := HZ7.out; have z8 := HZ8.out; have z9 := HZ9.out; have z10 := HZ10.out; have z11 := HZ11.out; have z12 := HZ12.out; have z13 := HZ13.out; have z14 := HZ14.out; have z15 := HZ15.out; have z16 := HZ16.out; have z17 := HZ17.out; omega)).mk_ MK2.out (fun g hg => by have h := Lg.out g hg; have h2 := Mg.out g hg; have z1 := HZ1.out; have z2 := HZ2.out; have z3 := HZ3.out; have z4 := HZ4.out; have z5 := HZ5.out; have z6 := HZ6.out; have z7 := HZ7.out; have z8 := HZ8.out; have z9 := HZ9.out; have z10 := HZ10.out; have z11 := HZ11.out; have z12 := HZ12.out; have z13 := HZ13.out; have z14 := HZ14.out; have z15 := HZ15.out; have z16 := HZ16.out; have z17 := HZ17.out; omega))).slrB ((((Os.out.below (Below.then_ (Below.then_ (Below.then_ (Below.then_ (Below.then_ (Below.then_ (Below.then_ (Below.then_ (Below.then_ B6.out B7.out) B8.out) B9.out) B10.out) B11.out) B12.out) B13.out) B14.out) B15.out)).mk_ MK0.out (fun b hb => by have z1 := HZ1.out; have z2 := HZ2.out; have z3 := HZ3.out; have z4 := HZ4.out; have z5 := HZ5.out; have z6 := HZ6.out; have z7 := HZ7.out; have z8 := HZ8.out; have z9 := HZ9.out; have z10 := HZ10.out; have z11 := HZ11.out; have z12 := HZ12.out; have z13 := HZ13.out; have z14 := HZ14.out; have z15 := HZ15.out; have z16 := HZ16.out; have z17 := HZ17.out; omega)).mk_ MK2.out (fun b hb => by have z1 := HZ1.out; have z2 := HZ2.out; have z3 := HZ3.out; have z4 := HZ4.out; have z5 := HZ5.out; have z6 := HZ6.out; have z7 := HZ7.out; have z8 := HZ8.out; have z9 := HZ9.out; have z10 := HZ10.out; have z11 := HZ11.out; have z12 := HZ12.out; have z13 := HZ13.out; have z14 := HZ14.out; have z15 := HZ15.out; have z16 := HZ16.out; have z17 := HZ17.out; omega)))).mono ?_
  rintro e we2 ⟨rfl, hb⟩
  have B18 := Lib.hid hb
  have HZ18 := Lib.hid hb.size
  clear hb
  have kk8 := (((((Kg.out.below (Below.then_ (Below.then_ (Below.then_ B12.out B13.out) B14.out) B15.out)).mk_ MK0.out (by have z1 := HZ1.out; have z2 := HZ2.out; have z3 := HZ3.out; have z4 := HZ4.out; have z5 := HZ5.out; have z6 := HZ6.out; have z7 := HZ7.out; have z8 := HZ8.out; have z9 := HZ9.out; have z10 := HZ10.out; have z11 := HZ11.out; have z12 := HZ12.out; have z13 := HZ13.out; have z14 := HZ14.out; have z15 := HZ15.out; have z16 := HZ16.out; have z17 := HZ17.out; have z18 := HZ18.out; omega)).mk_ MK2.out (by have z1 := HZ1.out; have z2 := HZ2.out; have z3 := HZ3.out; have z4 := HZ4.out; have z5 := HZ5.out; have z6 := HZ6.out; have z7 := HZ7.out; have z8 := HZ8.out; have z9 := HZ9.out; have z10 := HZ10.out; have z11 := HZ11.out; have z12 := HZ12.out; have z13 := HZ13.out; have z14 := HZ14.out; have z15 := HZ15.out; have z16 := HZ16.out; have z17 := HZ17.out; have z18 := HZ18.out; omega)).below B18.out)).cell
  have kk8z : wg.heap.size < we2.heap.size := (by have z1 := HZ1.out; have z2 := HZ2.out; have z3 := HZ3.out; have z4 := HZ4.out; have z5 := HZ5.out; have z6 := HZ6.out; have z7 := HZ7.out; have z8 := HZ8.out; have z9 := HZ9.out; have z10 := HZ10.out; have z11 := HZ11.out; have z12 := HZ12.out; have z13 := HZ13.out; have z14 := HZ14.out; have z15 := HZ15.out; have z16 := HZ16.out; have z17 := HZ17.out; have z18 := HZ18.out; omega)
  go_wp2_with fail
  clear kk8 kk8z
  refine (markTable_1 _ _ d m _ ((((Og.out.below (Below.then_ (Below.then_ (Below.then_ (Below.then_ B11.out B12.out) B13.out) B14.out) B15.out)).mk_ MK0.out (fun g hg => by have h := Lg.out g hg; have h2 := Mg.out g hg; have z1 := HZ1.out; have z2 := HZ2.out; have z3 := HZ3.out; have z4 := HZ4.out; have z5 := HZ5.out; have z6 := HZ6.out; have z7 := HZ7.out; have z8 := HZ8.out; have z9 := HZ9.out; have z10 := HZ10.out; have z11 := HZ11.out; have z12 := HZ12.out; have z13 := HZ13.out; have z14 := HZ14.out; have z15 := HZ15.out; have z16 := HZ16.out; have z17 := HZ17.out; have z18 := HZ18.out; omega)).mk_ MK2.out (fun g hg => by have h := Lg.out g hg; have h2 := Mg.out g hg; have z1 := HZ1.out; have z2 := HZ2.out; have z3 := HZ3.out; have z4 := HZ4.out; have z5 := HZ5.out; have z6 := HZ6.out; have z7 := HZ7.out; have z8 := HZ8.out; have z9 := HZ9.out; have z10 := HZ10.out; have z11 := HZ11.out; have z12 := HZ12.out; have z13 := HZ13.out; have z14 := HZ14.out; have z15 := HZ15.out; have z16 := HZ16.out; have z17 := HZ17.out; have z18 := HZ18.out; omega)).below B18.out) (by omega)).mono ?_
  rintro e wn ⟨rfl, ho, hg⟩
  have On := Lib.hid ho
  have MN : Hid (Marked wa2.heap.size wg.heap.size we2 wn) := Lib.hid (Marked.of_grown hg fun g hg => ⟨Mg.out g hg, Lg.out g hg⟩)
  clear ho hg
  obtain ⟨rA, hrA⟩ : ∃ rA : Int, rA = ((1 + 2 * m.length : Nat) : Int) := ⟨_, rfl⟩
  have e5 : ¬ rA < 0 := by omega
  have e6 : (rA != rA) = false := by simp
  have HH : Hid (∀ A c (S : Nat → Prop) W, SlR encR W S (.slice A m.length c) (mkR 1 m.length) → Calls Tryz.prog 26 #[.agg #[.int .i64 d, .slice A m.length c], .int .i64 1] W (RetV W (.int .i64 rA))) := Lib.hid fun A c S W hW => by rw [hrA]; exact heldTable_any _ d 1 m.length W hW (by omega) (by omega)
  rw [← hrA]
  clear hrA
  have HZ19 := Lib.hid MN.out.size
  have kk9 := ((((((Kg.out.below (Below.then_ (Below.then_ (Below.then_ B12.out B13.out) B14.out) B15.out)).mk_ MK0.out (by have z1 := HZ1.out; have z2 := HZ2.out; have z3 := HZ3.out; have z4 := HZ4.out; have z5 := HZ5.out; have z6 := HZ6.out; have z7 := HZ7.out; have z8 := HZ8.out; have z9 := HZ9.out; have z10 := HZ10.out; have z11 := HZ11.out; have z12 := HZ12.out; have z13 := HZ13.out; have z14 := HZ14.out; have z15 := HZ15.out; have z16 := HZ16.out; have z17 := HZ17.out; have z18 := HZ18.out; have z19 := HZ19.out; omega)).mk_ MK2.out (by have z1 := HZ1.out; have z2 := HZ2.out; have z3 := HZ3.out; have z4 := HZ4.out; have z5 := HZ5.out; have z6 := HZ6.out; have z7 := HZ7.out; have z8 := HZ8.out; have z9 := HZ9.out; have z10 := HZ10.out; have z11 := HZ11.out; have z12 := HZ12.out; have z13 := HZ13.out; have z14 := HZ14.out; have z15 := HZ15.out; have z16 := HZ16.out; have z17 := HZ17.out; have z18 := HZ18.out; have z19 := HZ19.out; omega)).below B18.out).mk_ MN.out (by have z1 := HZ1.out; have z2 := HZ2.out; have z3 := HZ3.out; have z4 := HZ4.out; have z5 := HZ5.out; have z6 := HZ6.out; have z7 := HZ7.out; have z8 := HZ8.out; have z9 := HZ9.out; have z10 := HZ10.out; have z11 := HZ11.out; have z12 := HZ12.out; have z13 := HZ13.out; have z14 := HZ14.out; have z15 := HZ15.out; have z16 := HZ16.out; have z17 := HZ17.out; have z18 := HZ18.out; have z19 := HZ19.out; omega))).cell
  have kk9z : wg.heap.size < wn.heap.size := (by have z1 := HZ1.out; have z2 := HZ2.out; have z3 := HZ3.out; have z4 := HZ4.out; have z5 := HZ5.out; have z6 := HZ6.out; have z7 := HZ7.out; have z8 := HZ8.out; have z9 := HZ9.out; have z10 := HZ10.out; have z11 := HZ11.out; have z12 := HZ12.out; have z13 := HZ13.out; have z14 := HZ14.out; have z15 := HZ15.out; have z16 := HZ16.out; have z17 := HZ17.out; have z18 := HZ18.out; have z19 := HZ19.out; omega)
  go_wp2_with fail
  clear kk9 kk9z
  refine (HH.out _ _ _ _ (On.out).slrB).mono ?_
  rintro e wh1 ⟨rfl, hb⟩
  have B20 := Lib.hid hb
  have HZ20 := Lib.hid hb.size
  clear hb
  have kk10 := (((((((KA0.out.below (Below.then_ (Below.then_ (Below.then_ (Below.then_ (Below.then_ (Below.then_ (Below.then_ (Below.then_ (Below.then_ (Below.then_ (Below.then_ (Below.then_ (Below.then_ B2.out B3.out) B4.out) B5.out) B6.out) B7.out) B8.out) B9.out) B10.out) B11.out) B12.out) B13.out) B14.out) B15.out)).mk_ MK0.out (by have z1 := HZ1.out; have z2 := HZ2.out; have z3 := HZ3.out; have z4 := HZ4.out; have z5 := HZ5.out; have z6 := HZ6.out; have z7 := HZ7.out; have z8 := HZ8.out; have z9 := HZ9.out; have z10 := HZ10.out; have z11 := HZ11.out; have z12 := HZ12.out; have z13 := HZ13.out; have z14 := HZ14.out; have z15 := HZ15.out; have z16 := HZ16.out; have z17 := HZ17.out; have z18 := HZ18.out; have z19 := HZ19.out; have z20 := HZ20.out; omega)).mk_ MK2.out (by have z1 := HZ1.out; have z2 := HZ2.out; have z3 := HZ3.out; have z4 := HZ4.out; have z5 := HZ5.out; have z6 := HZ6.out; have z7 := HZ7.out; have z8 := HZ8.out; have z9 := HZ9.out; have z10 := HZ10.out; have z11 := HZ11.out; have z12 := HZ12.out; have z13 := HZ13.out; have z14 := HZ14.out; have z15 := HZ15.out; have z16 := HZ16.out; have z17 := HZ17.out; have z18 := HZ18.out; have z19 := HZ19.out; have z20 := HZ20.out; omega)).below B18.out).mk_ MN.out (by have z1 := HZ1.out; have z2 := HZ2.out; have z3 := HZ3.out; have z4 := HZ4.out; have z5 := HZ5.out; have z6 := HZ6.out; have z7 := HZ7.out; have z8 := HZ8.out; have z9 := HZ9.out; have z10 := HZ10.out; have z11 := HZ11.out; have z12 := HZ12.out; have z13 := HZ13.out; have z14 := HZ14.out; have z15 := HZ15.out; have z16 := HZ16.out; have z17 := HZ17.out; have z18 := HZ18.out; have z19 := HZ19.out; have z20 := HZ20.out; omega)).below B20.out)).cell
  have kk10z : w.heap.size < wh1.heap.size := (by have z1 := HZ1.out; have z2 := HZ2.out; have z3 := HZ3.out; have z4 := HZ4.out; have z5 := HZ5.out; have z6 := HZ6.out; have z7 := HZ7.out; have z8 := HZ8.out; have z9 := HZ9.out; have z10 := HZ10.out; have z11 := HZ11.out; have z12 := HZ12.out; have z13 := HZ13.out; have z14 := HZ14.out; have z15 := HZ15.out; have z16 := HZ16.out; have z17 := HZ17.out; have z18 := HZ18.out; have z19 := HZ19.out; have z20 := HZ20.out; omega)
  go_wp2_with fail
  clear kk10 kk10z
  refine (toNetwork_any _ N0 _ (HR0.out.below (Below.then_ (Marked.bel (Below.then_ (Marked.bel (Marked.bel (Below.then_ (Below.then_ (Below.then_ (Below.then_ (Below.then_ (Below.then_ (Below.then_ (Below.then_ (Below.then_ (Below.then_ (Below.then_ (Below.then_ (Below.then_ (Below.then_ B1.out B2.out) B3.out) B4.out) B5.out) B6.out) B7.out) B8.out) B9.out) B10.out) B11.out) B12.out) B13.out) B14.out) B15.out) MK0.out (by have z1 := HZ1.out; have z2 := HZ2.out; have z3 := HZ3.out; have z4 := HZ4.out; have z5 := HZ5.out; have z6 := HZ6.out; have z7 := HZ7.out; have z8 := HZ8.out; have z9 := HZ9.out; have z10 := HZ10.out; have z11 := HZ11.out; have z12 := HZ12.out; have z13 := HZ13.out; have z14 := HZ14.out; have z15 := HZ15.out; have z16 := HZ16.out; have z17 := HZ17.out; have z18 := HZ18.out; have z19 := HZ19.out; have z20 := HZ20.out; omega) (by have z1 := HZ1.out; have z2 := HZ2.out; have z3 := HZ3.out; have z4 := HZ4.out; have z5 := HZ5.out; have z6 := HZ6.out; have z7 := HZ7.out; have z8 := HZ8.out; have z9 := HZ9.out; have z10 := HZ10.out; have z11 := HZ11.out; have z12 := HZ12.out; have z13 := HZ13.out; have z14 := HZ14.out; have z15 := HZ15.out; have z16 := HZ16.out; have z17 := HZ17.out; have z18 := HZ18.out; have z19 := HZ19.out; have z20 := HZ20.out; omega)) MK2.out (by have z1 := HZ1.out; have z2 := HZ2.out; have z3 := HZ3.out; have z4 := HZ4.out; have z5 := HZ5.out; have z6 := HZ6.out; have z7 := HZ7.out; have z8 := HZ8.out; have z9 := HZ9.out; have z10 := HZ10.out; have z11 := HZ11.out; have z12 := HZ12.out; have z13 := HZ13.out; have z14 := HZ14.out; have z15 := HZ15.out; have z16 := HZ16.out; have z17 := HZ17.out; have z18 := HZ18.out; have z19 := HZ19.out; have z20 := HZ20.out; omega) (by have z1 := HZ1.out; have z2 := HZ2.out; have z3 := HZ3.out; have z4 := HZ4.out; have z5 := HZ5.out; have z6 := HZ6.out; have z7 := HZ7.out; have z8 := HZ8.out; have z9 := HZ9.out; have z10 := HZ10.out; have z11 := HZ11.out; have z12 := HZ12.out; have z13 := HZ13.out; have z14 := HZ14.out; have z15 := HZ15.out; have z16 := HZ16.out; have z17 := HZ17.out; have z18 := HZ18.out; have z19 := HZ19.out; have z20 := HZ20.out; omega)) B18.out) MN.out (by have z1 := HZ1.out; have z2 := HZ2.out; have z3 := HZ3.out; have z4 := HZ4.out; have z5 := HZ5.out; have z6 := HZ6.out; have z7 := HZ7.out; have z8 := HZ8.out; have z9 := HZ9.out; have z10 := HZ10.out; have z11 := HZ11.out; have z12 := HZ12.out; have z13 := HZ13.out; have z14 := HZ14.out; have z15 := HZ15.out; have z16 := HZ16.out; have z17 := HZ17.out; have z18 := HZ18.out; have z19 := HZ19.out; have z20 := HZ20.out; omega) (by have z1 := HZ1.out; have z2 := HZ2.out; have z3 := HZ3.out; have z4 := HZ4.out; have z5 := HZ5.out; have z6 := HZ6.out; have z7 := HZ7.out; have z8 := HZ8.out; have z9 := HZ9.out; have z10 := HZ10.out; have z11 := HZ11.out; have z12 := HZ12.out; have z13 := HZ13.out; have z14 := HZ14.out; have z15 := HZ15.out; have z16 := HZ16.out; have z17 := HZ17.out; have z18 := HZ18.out; have z19 := HZ19.out; have z20 := HZ20.out; omega)) B20.out)) HSN0.out).mono ?_
  rintro e wtc0 ⟨vxtc0, rfl, ho, hb⟩
  have Otc0 := Lib.hid ho
  clear ho
  have B21 := Lib.hid hb
  have HZ21 := Lib.hid hb.size
  clear hb
  go_wp2_with fail
  refine (toIntS_any _ xs2 _ (HR2.out.below (Below.then_ (Below.then_ (Marked.bel (Below.then_ (Marked.bel (Marked.bel (Below.then_ (Below.then_ (Below.then_ (Below.then_ (Below.then_ (Below.then_ (Below.then_ (Below.then_ (Below.then_ (Below.then_ (Below.then_ (Below.then_ (Below.then_ (Below.then_ B1.out B2.out) B3.out) B4.out) B5.out) B6.out) B7.out) B8.out) B9.out) B10.out) B11.out) B12.out) B13.out) B14.out) B15.out) MK0.out (by have z1 := HZ1.out; have z2 := HZ2.out; have z3 := HZ3.out; have z4 := HZ4.out; have z5 := HZ5.out; have z6 := HZ6.out; have z7 := HZ7.out; have z8 := HZ8.out; have z9 := HZ9.out; have z10 := HZ10.out; have z11 := HZ11.out; have z12 := HZ12.out; have z13 := HZ13.out; have z14 := HZ14.out; have z15 := HZ15.out; have z16 := HZ16.out; have z17 := HZ17.out; have z18 := HZ18.out; have z19 := HZ19.out; have z20 := HZ20.out; have z21 := HZ21.out; omega) (by have z1 := HZ1.out; have z2 := HZ2.out; have z3 := HZ3.out; have z4 := HZ4.out; have z5 := HZ5.out; have z6 := HZ6.out; have z7 := HZ7.out; have z8 := HZ8.out; have z9 := HZ9.out; have z10 := HZ10.out; have z11 := HZ11.out; have z12 := HZ12.out; have z13 := HZ13.out; have z14 := HZ14.out; have z15 := HZ15.out; have z16 := HZ16.out; have z17 := HZ17.out; have z18 := HZ18.out; have z19 := HZ19.out; have z20 := HZ20.out; have z21 := HZ21.out; omega)) MK2.out (by have z1 := HZ1.out; have z2 := HZ2.out; have z3 := HZ3.out; have z4 := HZ4.out; have z5 := HZ5.out; have z6 := HZ6.out; have z7 := HZ7.out; have z8 := HZ8.out; have z9 := HZ9.out; have z10 := HZ10.out; have z11 := HZ11.out; have z12 := HZ12.out; have z13 := HZ13.out; have z14 := HZ14.out; have z15 := HZ15.out; have z16 := HZ16.out; have z17 := HZ17.out; have z18 := HZ18.out; have z19 := HZ19.out; have z20 := HZ20.out; have z21 := HZ21.out; omega) (by have z1 := HZ1.out; have z2 := HZ2.out; have z3 := HZ3.out; have z4 := HZ4.out; have z5 := HZ5.out; have z6 := HZ6.out; have z7 := HZ7.out; have z8 := HZ8.out; have z9 := HZ9.out; have z10 := HZ10.out; have z11 := HZ11.out; have z12 := HZ12.out; have z13 := HZ13.out; have z14 := HZ14.out; have z15 := HZ15.out; have z16 := HZ16.out; have z17 := HZ17.out; have z18 := HZ18.out; have z19 := HZ19.out; have z20 := HZ20.out; have z21 := HZ21.out; omega)) B18.out) MN.out (by have z1 := HZ1.out; have z2 := HZ2.out; have z3 := HZ3.out; have z4 := HZ4.out; have z5 := HZ5.out; have z6 := HZ6.out; have z7 := HZ7.out; have z8 := HZ8.out; have z9 := HZ9.out; have z10 := HZ10.out; have z11 := HZ11.out; have z12 := HZ12.out; have z13 := HZ13.out; have z14 := HZ14.out; have z15 := HZ15.out; have z16 := HZ16.out; have z17 := HZ17.out; have z18 := HZ18.out; have z19 := HZ19.out; have z20 := HZ20.out; have z21 := HZ21.out; omega) (by have z1 := HZ1.out; have z2 := HZ2.out; have z3 := HZ3.out; have z4 := HZ4.out; have z5 := HZ5.out; have z6 := HZ6.out; have z7 := HZ7.out; have z8 := HZ8.out; have z9 := HZ9.out; have z10 := HZ10.out; have z11 := HZ11.out; have z12 := HZ12.out; have z13 := HZ13.out; have z14 := HZ14.out; have z15 := HZ15.out; have z16 := HZ16.out; have z17 := HZ17.out; have z18 := HZ18.out; have z19 := HZ19.out; have z20 := HZ20.out; have z21 := HZ21.out; omega)) B20.out) B21.out)) (by omega)).mono ?_
  rintro e wtc2 ⟨vxtc2, rfl, ho, hb⟩
  have Otc2 := Lib.hid ho
  have Ltc2 := Lib.hid fun g hg => (ho.lt g hg).2
  have Mtc2 := Lib.hid fun g hg => (ho.lt g hg).1
  clear ho
  have B22 := Lib.hid hb
  have HZ22 := Lib.hid hb.size
  clear hb
  go_wp2_with fail
  refine (CM.out _ _ _ _ _ ((Otc0.out.below B22.out).net HSN0.out) (Otc2.out.below (Below.refl _ _)).ints).mono ?_
  rintro e wt ⟨At, ct, rfl, hb, ho⟩
  have Ot := Lib.hid ho
  have Lt := Lib.hid fun g hg => (ho.lt g hg).2
  clear ho
  have B23 := Lib.hid hb
  have HZ23 := Lib.hid hb.size
  clear hb
  have B24 : Hid (Below wt.heap.size wt (wt.alloc (.cells #[.int .i64 d, .slice At m.length ct] 35))) := Lib.hid ((Below.refl _ _).alloc (Nat.le_refl _) _)
  have HZ24 : Hid ((wt.alloc (.cells #[.int .i64 d, .slice At m.length ct] 35)).heap.size = wt.heap.size + 1) := Lib.hid (by simp)
  have Kt := Lib.hid (Blk.new wt 35 #[.int .i64 d, .slice At m.length ct])
  have kk11 := (((((((Ks.out.below (Below.then_ (Below.then_ (Below.then_ (Below.then_ (Below.then_ (Below.then_ (Below.then_ (Below.then_ B7.out B8.out) B9.out) B10.out) B11.out) B12.out) B13.out) B14.out) B15.out)).mk_ MK0.out (by have z1 := HZ1.out; have z2 := HZ2.out; have z3 := HZ3.out; have z4 := HZ4.out; have z5 := HZ5.out; have z6 := HZ6.out; have z7 := HZ7.out; have z8 := HZ8.out; have z9 := HZ9.out; have z10 := HZ10.out; have z11 := HZ11.out; have z12 := HZ12.out; have z13 := HZ13.out; have z14 := HZ14.out; have z15 := HZ15.out; have z16 := HZ16.out; have z17 := HZ17.out; have z18 := HZ18.out; have z19 := HZ19.out; have z20 := HZ20.out; have z21 := HZ21.out; have z22 := HZ22.out; have z23 := HZ23.out; have z24 := HZ24.out; omega)).mk_ MK2.out (by have z1 := HZ1.out; have z2 := HZ2.out; have z3 := HZ3.out; have z4 := HZ4.out; have z5 := HZ5.out; have z6 := HZ6.out; have z7 := HZ7.out; have z8 := HZ8.out; have z9 := HZ9.out; have z10 := HZ10.out; have z11 := HZ11.out; have z12 := HZ12.out; have z13 := HZ13.out; have z14 := HZ14.out; have z15 := HZ15.out; have z16 := HZ16.out; have z17 := HZ17.out; have z18 := HZ18.out; have z19 := HZ19.out; have z20 := HZ20.out; have z21 := HZ21.out; have z22 := HZ22.out; have z23 := HZ23.out; have z24 := HZ24.out; omega)).below B18.out).mk_ MN.out (by have z1 := HZ1.out; have z2 := HZ2.out; have z3 := HZ3.out; have z4 := HZ4.out; have z5 := HZ5.out; have z6 := HZ6.out; have z7 := HZ7.out; have z8 := HZ8.out; have z9 := HZ9.out; have z10 := HZ10.out; have z11 := HZ11.out; have z12 := HZ12.out; have z13 := HZ13.out; have z14 := HZ14.out; have z15 := HZ15.out; have z16 := HZ16.out; have z17 := HZ17.out; have z18 := HZ18.out; have z19 := HZ19.out; have z20 := HZ20.out; have z21 := HZ21.out; have z22 := HZ22.out; have z23 := HZ23.out; have z24 := HZ24.out; omega)).below (Below.then_ (Below.then_ (Below.then_ B20.out B21.out) B22.out) B23.out))).cell
  have kk11z : ws.heap.size < wt.heap.size := (by have z1 := HZ1.out; have z2 := HZ2.out; have z3 := HZ3.out; have z4 := HZ4.out; have z5 := HZ5.out; have z6 := HZ6.out; have z7 := HZ7.out; have z8 := HZ8.out; have z9 := HZ9.out; have z10 := HZ10.out; have z11 := HZ11.out; have z12 := HZ12.out; have z13 := HZ13.out; have z14 := HZ14.out; have z15 := HZ15.out; have z16 := HZ16.out; have z17 := HZ17.out; have z18 := HZ18.out; have z19 := HZ19.out; have z20 := HZ20.out; have z21 := HZ21.out; have z22 := HZ22.out; have z23 := HZ23.out; omega)
  go_wp2_with fail
  clear kk11 kk11z
  generalize wt.alloc (.cells #[.int .i64 d, .slice At m.length ct] 35) = wtb at *
  refine (eqTable_same _ _ d m _ ((Ot.out.below B24.out)).slrB (((((((Os.out.below (Below.then_ (Below.then_ (Below.then_ (Below.then_ (Below.then_ (Below.then_ (Below.then_ (Below.then_ (Below.then_ B6.out B7.out) B8.out) B9.out) B10.out) B11.out) B12.out) B13.out) B14.out) B15.out)).mk_ MK0.out (fun b hb => by have z1 := HZ1.out; have z2 := HZ2.out; have z3 := HZ3.out; have z4 := HZ4.out; have z5 := HZ5.out; have z6 := HZ6.out; have z7 := HZ7.out; have z8 := HZ8.out; have z9 := HZ9.out; have z10 := HZ10.out; have z11 := HZ11.out; have z12 := HZ12.out; have z13 := HZ13.out; have z14 := HZ14.out; have z15 := HZ15.out; have z16 := HZ16.out; have z17 := HZ17.out; have z18 := HZ18.out; have z19 := HZ19.out; have z20 := HZ20.out; have z21 := HZ21.out; have z22 := HZ22.out; have z23 := HZ23.out; have z24 := HZ24.out; omega)).mk_ MK2.out (fun b hb => by have z1 := HZ1.out; have z2 := HZ2.out; have z3 := HZ3.out; have z4 := HZ4.out; have z5 := HZ5.out; have z6 := HZ6.out; have z7 := HZ7.out; have z8 := HZ8.out; have z9 := HZ9.out; have z10 := HZ10.out; have z11 := HZ11.out; have z12 := HZ12.out; have z13 := HZ13.out; have z14 := HZ14.out; have z15 := HZ15.out; have z16 := HZ16.out; have z17 := HZ17.out; have z18 := HZ18.out; have z19 := HZ19.out; have z20 := HZ20.out; have z21 := HZ21.out; have z22 := HZ22.out; have z23 := HZ23.out; have z24 := HZ24.out; omega)).below B18.out).mk_ MN.out (fun b hb => by have z1 := HZ1.out; have z2 := HZ2.out; have z3 := HZ3.out; have z4 := HZ4.out; have z5 := HZ5.out; have z6 := HZ6.out; have z7 := HZ7.out; have z8 := HZ8.out; have z9 := HZ9.out; have z10 := HZ10.out; have z11 := HZ11.out; have z12 := HZ12.out; have z13 := HZ13.out; have z14 := HZ14.out; have z15 := HZ15.out; have z16 := HZ16.out; have z17 := HZ17.out; have z18 := HZ18.out; have z19 := HZ19.out; have z20 := HZ20.out; have z21 := HZ21.out; have z22 := HZ22.out; have z23 := HZ23.out; have z24 := HZ24.out; omega)).below (Below.then_ (Below.then_ (Below.then_ (Below.then_ B20.out B21.out) B22.out) B23.out) B24.out)))).mono ?_
  rintro e we3 ⟨rfl, hb⟩
  have B25 := Lib.hid hb
  have HZ25 := Lib.hid hb.size
  clear hb
  have kk12 := (((((((Kg.out.below (Below.then_ (Below.then_ (Below.then_ B12.out B13.out) B14.out) B15.out)).mk_ MK0.out (by have z1 := HZ1.out; have z2 := HZ2.out; have z3 := HZ3.out; have z4 := HZ4.out; have z5 := HZ5.out; have z6 := HZ6.out; have z7 := HZ7.out; have z8 := HZ8.out; have z9 := HZ9.out; have z10 := HZ10.out; have z11 := HZ11.out; have z12 := HZ12.out; have z13 := HZ13.out; have z14 := HZ14.out; have z15 := HZ15.out; have z16 := HZ16.out; have z17 := HZ17.out; have z18 := HZ18.out; have z19 := HZ19.out; have z20 := HZ20.out; have z21 := HZ21.out; have z22 := HZ22.out; have z23 := HZ23.out; have z24 := HZ24.out; have z25 := HZ25.out; omega)).mk_ MK2.out (by have z1 := HZ1.out; have z2 := HZ2.out; have z3 := HZ3.out; have z4 := HZ4.out; have z5 := HZ5.out; have z6 := HZ6.out; have z7 := HZ7.out; have z8 := HZ8.out; have z9 := HZ9.out; have z10 := HZ10.out; have z11 := HZ11.out; have z12 := HZ12.out; have z13 := HZ13.out; have z14 := HZ14.out; have z15 := HZ15.out; have z16 := HZ16.out; have z17 := HZ17.out; have z18 := HZ18.out; have z19 := HZ19.out; have z20 := HZ20.out; have z21 := HZ21.out; have z22 := HZ22.out; have z23 := HZ23.out; have z24 := HZ24.out; have z25 := HZ25.out; omega)).below B18.out).mk_ MN.out (by have z1 := HZ1.out; have z2 := HZ2.out; have z3 := HZ3.out; have z4 := HZ4.out; have z5 := HZ5.out; have z6 := HZ6.out; have z7 := HZ7.out; have z8 := HZ8.out; have z9 := HZ9.out; have z10 := HZ10.out; have z11 := HZ11.out; have z12 := HZ12.out; have z13 := HZ13.out; have z14 := HZ14.out; have z15 := HZ15.out; have z16 := HZ16.out; have z17 := HZ17.out; have z18 := HZ18.out; have z19 := HZ19.out; have z20 := HZ20.out; have z21 := HZ21.out; have z22 := HZ22.out; have z23 := HZ23.out; have z24 := HZ24.out; have z25 := HZ25.out; omega)).below (Below.then_ (Below.then_ (Below.then_ (Below.then_ (Below.then_ B20.out B21.out) B22.out) B23.out) B24.out) B25.out))).cell
  have kk12z : wg.heap.size < we3.heap.size := (by have z1 := HZ1.out; have z2 := HZ2.out; have z3 := HZ3.out; have z4 := HZ4.out; have z5 := HZ5.out; have z6 := HZ6.out; have z7 := HZ7.out; have z8 := HZ8.out; have z9 := HZ9.out; have z10 := HZ10.out; have z11 := HZ11.out; have z12 := HZ12.out; have z13 := HZ13.out; have z14 := HZ14.out; have z15 := HZ15.out; have z16 := HZ16.out; have z17 := HZ17.out; have z18 := HZ18.out; have z19 := HZ19.out; have z20 := HZ20.out; have z21 := HZ21.out; have z22 := HZ22.out; have z23 := HZ23.out; have z24 := HZ24.out; have z25 := HZ25.out; omega)
  go_wp2_with fail
  clear kk12 kk12z
  refine (HH.out _ _ _ _ ((On.out.below (Below.then_ (Below.then_ (Below.then_ (Below.then_ (Below.then_ B20.out B21.out) B22.out) B23.out) B24.out) B25.out))).slrB).mono ?_
  rintro e wh2 ⟨rfl, hb⟩
  have B26 := Lib.hid hb
  have HZ26 := Lib.hid hb.size
  clear hb
  go_wp2_with fail
  go_ret
  exact ⟨rfl, (Below.then_ (Below.then_ (Below.then_ (Below.then_ (Below.then_ (Below.then_ (Below.then_ (Marked.bel (Below.then_ (Marked.bel (Marked.bel (Below.then_ (Below.then_ (Below.then_ (Below.then_ (Below.then_ (Below.then_ (Below.then_ (Below.then_ (Below.then_ (Below.then_ (Below.then_ (Below.then_ (Below.then_ (Below.then_ B1.out B2.out) B3.out) B4.out) B5.out) B6.out) B7.out) B8.out) B9.out) B10.out) B11.out) B12.out) B13.out) B14.out) B15.out) MK0.out (by have z1 := HZ1.out; have z2 := HZ2.out; have z3 := HZ3.out; have z4 := HZ4.out; have z5 := HZ5.out; have z6 := HZ6.out; have z7 := HZ7.out; have z8 := HZ8.out; have z9 := HZ9.out; have z10 := HZ10.out; have z11 := HZ11.out; have z12 := HZ12.out; have z13 := HZ13.out; have z14 := HZ14.out; have z15 := HZ15.out; have z16 := HZ16.out; have z17 := HZ17.out; have z18 := HZ18.out; have z19 := HZ19.out; have z20 := HZ20.out; have z21 := HZ21.out; have z22 := HZ22.out; have z23 := HZ23.out; have z24 := HZ24.out; have z25 := HZ25.out; have z26 := HZ26.out; omega) (by have z1 := HZ1.out; have z2 := HZ2.out; have z3 := HZ3.out; have z4 := HZ4.out; have z5 := HZ5.out; have z6 := HZ6.out; have z7 := HZ7.out; have z8 := HZ8.out; have z9 := HZ9.out; have z10 := HZ10.out; have z11 := HZ11.out; have z12 := HZ12.out; have z13 := HZ13.out; have z14 := HZ14.out; have z15 := HZ15.out; have z16 := HZ16.out; have z17 := HZ17.out; have z18 := HZ18.out; have z19 := HZ19.out; have z20 := HZ20.out; have z21 := HZ21.out; have z22 := HZ22.out; have z23 := HZ23.out; have z24 := HZ24.out; have z25 := HZ25.out; have z26 := HZ26.out; omega)) MK2.out (by have z1 := HZ1.out; have z2 := HZ2.out; have z3 := HZ3.out; have z4 := HZ4.out; have z5 := HZ5.out; have z6 := HZ6.out; have z7 := HZ7.out; have z8 := HZ8.out; have z9 := HZ9.out; have z10 := HZ10.out; have z11 := HZ11.out; have z12 := HZ12.out; have z13 := HZ13.out; have z14 := HZ14.out; have z15 := HZ15.out; have z16 := HZ16.out; have z17 := HZ17.out; have z18 := HZ18.out; have z19 := HZ19.out; have z20 := HZ20.out; have z21 := HZ21.out; have z22 := HZ22.out; have z23 := HZ23.out; have z24 := HZ24.out; have z25 := HZ25.out; have z26 := HZ26.out; omega) (by have z1 := HZ1.out; have z2 := HZ2.out; have z3 := HZ3.out; have z4 := HZ4.out; have z5 := HZ5.out; have z6 := HZ6.out; have z7 := HZ7.out; have z8 := HZ8.out; have z9 := HZ9.out; have z10 := HZ10.out; have z11 := HZ11.out; have z12 := HZ12.out; have z13 := HZ13.out; have z14 := HZ14.out; have z15 := HZ15.out; have z16 := HZ16.out; have z17 := HZ17.out; have z18 := HZ18.out; have z19 := HZ19.out; have z20 := HZ20.out; have z21 := HZ21.out; have z22 := HZ22.out; have z23 := HZ23.out; have z24 := HZ24.out; have z25 := HZ25.out; have z26 := HZ26.out; omega)) B18.out) MN.out (by have z1 := HZ1.out; have z2 := HZ2.out; have z3 := HZ3.out; have z4 := HZ4.out; have z5 := HZ5.out; have z6 := HZ6.out; have z7 := HZ7.out; have z8 := HZ8.out; have z9 := HZ9.out; have z10 := HZ10.out; have z11 := HZ11.out; have z12 := HZ12.out; have z13 := HZ13.out; have z14 := HZ14.out; have z15 := HZ15.out; have z16 := HZ16.out; have z17 := HZ17.out; have z18 := HZ18.out; have z19 := HZ19.out; have z20 := HZ20.out; have z21 := HZ21.out; have z22 := HZ22.out; have z23 := HZ23.out; have z24 := HZ24.out; have z25 := HZ25.out; have z26 := HZ26.out; omega) (by have z1 := HZ1.out; have z2 := HZ2.out; have z3 := HZ3.out; have z4 := HZ4.out; have z5 := HZ5.out; have z6 := HZ6.out; have z7 := HZ7.out; have z8 := HZ8.out; have z9 := HZ9.out; have z10 := HZ10.out; have z11 := HZ11.out; have z12 := HZ12.out; have z13 := HZ13.out; have z14 := HZ14.out; have z15 := HZ15.out; have z16 := HZ16.out; have z17 := HZ17.out; have z18 := HZ18.out; have z19 := HZ19.out; have z20 := HZ20.out; have z21 := HZ21.out; have z22 := HZ22.out; have z23 := HZ23.out; have z24 := HZ24.out; have z25 := HZ25.out; have z26 := HZ26.out; omega)) B20.out) B21.out) B22.out) B23.out) B24.out) B25.out) B26.out)⟩
end Go.Proofs.YtjoimponfeofkaaGreat
