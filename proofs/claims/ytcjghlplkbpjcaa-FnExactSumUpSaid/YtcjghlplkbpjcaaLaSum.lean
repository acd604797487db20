/- The statement's function FnExactSumUp returns true for every network and all lists, and writes nothing that was there. -/
import Derived.Test.YtcjghlplkbpjcaaIm7
import Derived.Test.YtcjghlplkbpjcaaSp7
import Derived.Test.YtcjghlplkbpjcaaLh7
import Derived.Test.YtcjghlplkbpjcaaRd
import Derived.Deep.RegionHeld3
namespace Go.Proofs.Ytcjghlplkbpjcaa
open Go.RowKit

/-- what SumUp gives, in both cases -/
def SumRes (N : Net) (ps vals s : List Int) (h b : Int) (ok : Bool) : Prop := (SumOk N ps vals ∧ SumIs N ps vals s h b ∧ ok = true) ∨ (¬ SumOk N ps vals ∧ s = [] ∧ h = 0 ∧ b = 0 ∧ ok = false)
theorem SumRes.unique {N : Net} {ps vals s s' : List Int} {h h' b b' : Int} {ok ok' : Bool} (x : SumRes N ps vals s h b ok) (y : SumRes N ps vals s' h' b' ok') : s = s' ∧ h = h' ∧ b = b' ∧ ok = ok' := by
  rcases x with ⟨x1, x2, rfl⟩ | ⟨x1, rfl, rfl, rfl, rfl⟩
  · rcases y with ⟨_, y2, rfl⟩ | ⟨y1, _⟩
    · obtain ⟨rfl, rfl, rfl⟩ := x2.unique x1.1 y2
      exact ⟨rfl, rfl, rfl, rfl⟩
    · exact absurd x1 y1
  · rcases y with ⟨y1, _⟩ | ⟨_, rfl, rfl, rfl, rfl⟩
    · exact absurd y1 x1
    · exact ⟨rfl, rfl, rfl, rfl⟩
theorem SumRes.len {N : Net} {ps vals s : List Int} {h b : Int} {ok : Bool} (x : SumRes N ps vals s h b ok) : s.length ≤ 40 := by
  rcases x with ⟨x1, x2, rfl⟩ | ⟨_, rfl, _⟩
  · rw [x2.bits.1]; exact x1.small.2
  · simp
def RetSum2 (N : Net) (ps vals : List Int) (w : World) (e : Ending) (w' : World) : Prop :=
  ∃ (v : Value) (s : List Int) (h b : Int) (ok : Bool), e = .returned (.tuple #[v, .int .i64 h, .int .i64 b, .bool ok]) ∧ OwnI w' w.heap.size v s ∧ SumRes N ps vals s h b ok ∧ Below w.heap.size w w'
theorem RetSum.two {N : Net} {ps vals : List Int} {w w' : World} {e : Ending} (h : RetSum N ps vals w e w') : RetSum2 N ps vals w e w' := by
  obtain ⟨hb, ⟨h1, v, s, h, b, h2, rfl, ho⟩ | ⟨h1, rfl⟩⟩ := h
  · exact ⟨v, s, h, b, true, rfl, ho, .inl ⟨h1, h2, rfl⟩, hb⟩
  · exact ⟨_, [], 0, 0, false, rfl, OwnI.nil, .inr ⟨h1, rfl, rfl, rfl, rfl⟩, hb⟩

theorem OwnI.marked {w w' : World} {B C D : Nat} {v : Value} {xs : List Int} (h : OwnI w D v xs) (hm : Marked B C w w') (hD : ∀ g, v.ownBlock = some g → g < B ∨ C ≤ g) : OwnI w' D v xs := by
  refine ⟨h.1, ?_⟩
  rcases h.2 with h2 | ⟨g, cap, cur, rfl, hB, hg, hr⟩
  · exact .inl h2
  · refine .inr ⟨g, cap, cur, rfl, hB, ?_, hr⟩
    rcases hm.block g (Array.getElem?_eq_some_iff.1 hg).1 with h3 | h3
    · rcases hD g rfl with h4 | h4 <;> omega
    · exact h3.trans hg
theorem Blk.marked {w w' : World} {B C g : Nat} {t : TypeId} {cs : Array Value} (h : Blk w g t cs) (hm : Marked B C w w') (hg : g < B) : Blk w' g t cs := by
  rcases hm.block g h.lt with h3 | h3
  · omega
  · exact h3.trans h

theorem cells6 {W : World} {g g' : Nat} {t t' : TypeId} {a b c a' b' c' : Value} (h : Blk W g t #[a, b, c]) (h' : Blk W g' t' #[a', b', c']) :
    W.cell? ⟨g, 0, none⟩ = some a ∧ W.cell? ⟨g, 1, none⟩ = some b ∧ W.cell? ⟨g, 2, none⟩ = some c ∧ W.cell? ⟨g', 0, none⟩ = some a' ∧ W.cell? ⟨g', 1, none⟩ = some b' ∧ W.cell? ⟨g', 2, none⟩ = some c' :=
  ⟨by rw [h.cell]; rfl, by rw [h.cell]; rfl, by rw [h.cell]; rfl, by rw [h'.cell]; rfl, by rw [h'.cell]; rfl, by rw [h'.cell]; rfl⟩

set_option maxRecDepth 100000 in
set_option maxHeartbeats 8000000 in
theorem lawSumUp (v u x : Value) (N : Net) (ps vals : List Int) (w : World) (h : NetR w anyB v N) (hp : IntsR w anyB u ps) (hv : IntsR w anyB x vals) :
    Calls Try.prog 4 #[v, u, x] w (RetV w (.bool true)) := by
  have hpb := hp.bound
  have hvb := hv.bound
  have HNR := Lib.hid h
  have HPR := Lib.hid hp
  have HVR := Lib.hid hv
  obtain ⟨ve, vi, vn, rfl, he, hi, hn⟩ := h
  obtain ⟨A, c, rfl, -, -, -⟩ := he
  obtain ⟨A1, c1, rfl, -, -, -⟩ := hi
  obtain ⟨A2, c2, rfl, -, -, -⟩ := hn
  obtain ⟨A3, c3, rfl, -, -, -⟩ := hp
  obtain ⟨A4, c4, rfl, -, -, -⟩ := hv
  have hb0 : ∀ o1, Below w.heap.size w (w.alloc o1) := fun o1 => (Below.refl _ _).alloc (Nat.le_refl _) _
  have HB0 := Lib.hid hb0
  have HK0 := Lib.hid (Blk.new w 38 #[.slice A N.ends.length c, .slice A1 N.ids.length c1, .slice A2 N.inputs.length c2])
  clear hb0
  by_cases hp1 : 1048576 < ps.length
  · go_enter Try.func4, Try.ntmps4
    go_wp2_with fail
    go_ret
    exact ⟨rfl, HB0.out _⟩
  by_cases hv1 : 1048576 < vals.length
  · go_enter Try.func4, Try.ntmps4
    go_wp2_with fail
    go_ret
    exact ⟨rfl, HB0.out _⟩
  go_enter Try.func4, Try.ntmps4
  go_wp2_with fail
  refine (szNetwork_any _ N 1048576 _ (HNR.out.below (HB0.out _)) (by omega) (by omega)).mono ?_
  rintro e w1 ⟨r, rfl, hr1, hr2, hsh, hb1⟩
  have HB1 := Lib.hid (Below.then_ (HB0.out _) hb1)
  have HK1 := Lib.hid (HK0.out.below hb1)
  have HSH := Lib.hid hsh
  clear hsh hb1
  by_cases hneg : r < 0
  · go_wp2_with fail
    go_ret
    exact ⟨rfl, HB1.out⟩
  have hsh := HSH.out (by omega)
  have HS := Lib.hid hsh
  clear hsh HSH
  have k1 := HK1.out.cell
  go_wp2_with fail
  clear k1
  refine (toNetwork_any _ N w1 (HNR.out.below HB1.out) HS.out).mono ?_
  rintro e w2 ⟨v2, rfl, ho2, hb2⟩
  have HO2 := Lib.hid ho2
  have HB2 := Lib.hid (Below.then_ HB1.out hb2)
  have HK2 := Lib.hid (HK1.out.below hb2)
  clear ho2 hb2
  go_wp2_with fail
  refine (toIntS_any _ ps w2 (HPR.out.below HB2.out) (by omega)).mono ?_
  rintro e w3 ⟨v3, rfl, ho3, hb3⟩
  have HO3 := Lib.hid ho3
  have HC3 := Lib.hid hb3
  have HB3 := Lib.hid (Below.then_ HB2.out hb3)
  have HK3 := Lib.hid (HK2.out.below hb3)
  clear ho3 hb3
  go_wp2_with fail
  refine (toIntS_any _ vals w3 (HVR.out.below HB3.out) (by omega)).mono ?_
  rintro e w4 ⟨v4, rfl, ho4, hb4⟩
  have HO4 := Lib.hid ho4
  have HC4 := Lib.hid hb4
  have HB4 := Lib.hid (Below.then_ HB3.out hb4)
  have HK4 := Lib.hid (HK3.out.below hb4)
  clear ho4 hb4
  go_wp2_with fail
  refine (specSumUp_any v2 v3 v4 N ps vals w4 ((HO2.out.below (Below.then_ HC3.out HC4.out)).net HS.out) (HO3.out.below HC4.out).ints HO4.out.ints).mono ?_
  intro e w5 h5
  obtain ⟨v5, s, hh, bb, ok, rfl, ho5, hres5, hb5⟩ := h5.two
  clear h5
  have HO5 := Lib.hid ho5
  have HR5 := Lib.hid hres5
  have HB5 := Lib.hid (Below.then_ HB4.out hb5)
  have HK5 := Lib.hid (HK4.out.below hb5)
  have hz5 : w.heap.size < w5.heap.size := HK5.out.lt
  have HZ5 : Hid (∀ g, v5.ownBlock = some g → g < w5.heap.size) := fun g hg => (ho5.lt g hg).2
  clear ho5 hres5 hb5 HO2 HO3 HO4 HC3 HC4 HK1 HK2 HK3 HK4 HB2 HB3 HB4
  have k5 := HK5.out.cell
  go_wp2_with fail
  clear k5
  refine (toNetwork_any _ N w5 (HNR.out.below HB5.out) HS.out).mono ?_
  rintro e w6 ⟨v6, rfl, ho6, hb6⟩
  have HO6 := Lib.hid ho6
  have HC6 := Lib.hid hb6
  have hz6 : w5.heap.size ≤ w6.heap.size := hb6.size
  obtain ⟨xe, xi, xn, rfl, hxe, hxi, hxn⟩ := ho6
  obtain ⟨A6, c6, rfl⟩ := hxe.shape
  obtain ⟨A7, c7, rfl⟩ := hxi.shape
  obtain ⟨A8, c8, rfl⟩ := hxn.shape
  clear hb6 hxe hxi hxn
  go_wp2_with fail
  have hba : Below w6.heap.size w6 (w6.alloc (.cells #[.slice A6 N.ends.length c6, .slice A7 N.ids.length c7, .slice A8 N.inputs.length c8] 44)) := (Below.refl _ _).alloc (Nat.le_refl _) _
  have HX6 := Lib.hid (Blk.new w6 44 #[.slice A6 N.ends.length c6, .slice A7 N.ids.length c7, .slice A8 N.inputs.length c8])
  have HB6 := Lib.hid (Below.then_ HB5.out (Below.then_ HC6.out hba))
  have HD6 := Lib.hid hba
  have HC56 := Lib.hid (Below.then_ HC6.out hba)
  clear hba HC6
  refine (toIntS_any _ ps _ (HPR.out.below HB6.out) (by omega)).mono ?_
  rintro e w7 ⟨v7, rfl, ho7, hb7⟩
  simp only [World.size_alloc] at ho7
  have HO7 := Lib.hid ho7
  have HX7 := Lib.hid (HX6.out.below hb7)
  have HB7 := Lib.hid (Below.then_ HB6.out hb7)
  have HD7 := Lib.hid (Below.then_ HD6.out hb7)
  have HC57 := Lib.hid (Below.then_ HC56.out hb7)
  have hz7 : w6.heap.size < w7.heap.size := HX7.out.lt
  clear ho7 hb7 HX6 HB6 HD6 HC56
  go_wp2_with fail
  refine (toIntS_any _ vals w7 (HVR.out.below HB7.out) (by omega)).mono ?_
  rintro e w8 ⟨v8, rfl, ho8, hb8⟩
  have HO8 := Lib.hid ho8
  have HE8 := Lib.hid hb8
  have HX8 := Lib.hid (HX7.out.below hb8)
  have HB8 := Lib.hid (Below.then_ HB7.out hb8)
  have HD8 := Lib.hid (Below.then_ HD7.out hb8)
  have HC58 := Lib.hid (Below.then_ HC57.out hb8)
  have hz8 : w7.heap.size ≤ w8.heap.size := hb8.size
  clear ho8 hb8 HX7 HB7 HD7 HC57
  have kx := HX8.out.cell
  go_wp2_with fail
  clear kx
  refine (implSumUp_any _ v7 v8 N ps vals w8 ((HO6.out.below HD8.out).net HS.out) (HO7.out.below HE8.out).ints HO8.out.ints (by have := HS.out.2.1; omega) (by omega)).mono ?_
  intro e w9 h9
  obtain ⟨v9, s', hh', bb', ok', rfl, ho9, hres9, hb9⟩ := h9.two
  clear h9
  obtain ⟨rfl, rfl, rfl, rfl⟩ := HR5.out.unique hres9
  clear hres9
  have hsl : s.length ≤ 40 := HR5.out.len
  have HO9 := Lib.hid ho9
  have HX9 := Lib.hid (HX8.out.below hb9)
  have HB9 := Lib.hid (Below.then_ HB8.out hb9)
  have HD9 := Lib.hid (Below.then_ HD8.out hb9)
  have HE9 := Lib.hid (Below.then_ HE8.out hb9)
  have HC59 := Lib.hid (Below.then_ HC58.out hb9)
  have HF9 := Lib.hid hb9
  have hz9 : w8.heap.size ≤ w9.heap.size := hb9.size
  have HK9 := Lib.hid (HK5.out.below HC59.out)
  clear ho9 hb9 HX8 HB8 HD8 HE8 HC58
  go_wp2_with fail
  refine (eqIntS_any _ _ s s w9 HO9.out.ints (HO5.out.below HC59.out).ints).mono ?_
  rw [sameB_refl]
  rintro e w10 ⟨rfl, nd, rfl⟩
  have e1 : (hh != hh) = false := by simp
  have e2 : (bb != bb) = false := by simp
  have e3 : (ok != ok) = false := by simp
  have hbd : Below w9.heap.size w9 (w9.drewN nd) := below_drewN (Below.refl _ _) nd
  have HOa := Lib.hid (HO9.out.below hbd)
  have HXa := Lib.hid (HX9.out.below hbd)
  have HBa := Lib.hid (Below.then_ HB9.out hbd)
  have HDa := Lib.hid (Below.then_ HD9.out hbd)
  have HEa := Lib.hid (Below.then_ HE9.out hbd)
  have HFa := Lib.hid (Below.then_ HF9.out hbd)
  have HCa := Lib.hid (Below.then_ HC59.out hbd)
  have HKa := Lib.hid (HK9.out.below hbd)
  have hza : w9.heap.size ≤ (w9.drewN nd).heap.size := Nat.le_refl _
  clear hbd HO9 HX9 HB9 HD9 HE9 HF9 HC59 HK9
  go_wp2_with fail
  generalize w9.drewN nd = wa at *
  go_region_held3 (fun W => W.cell? ⟨w6.heap.size, 0, none⟩ = some (.slice A6 N.ends.length c6) ∧ W.cell? ⟨w6.heap.size, 1, none⟩ = some (.slice A7 N.ids.length c7) ∧ W.cell? ⟨w6.heap.size, 2, none⟩ = some (.slice A8 N.inputs.length c8) ∧
      W.cell? ⟨w.heap.size, 0, none⟩ = some (.slice A N.ends.length c) ∧ W.cell? ⟨w.heap.size, 1, none⟩ = some (.slice A1 N.ids.length c1) ∧ W.cell? ⟨w.heap.size, 2, none⟩ = some (.slice A2 N.inputs.length c2))
    (first | exact cells6 HXa.out HKa.out | exact cells6 (HXa.out.below hbb') (HKa.out.below hbb') | exact cells6 (HXa.out.below hbc') (HKa.out.below hbc'))
    (first
      | (go_at_call 16; refine (toNetwork_any _ N _ (HNR.out.below (HBa.out.drew)) HS.out).mono ?_; rintro e wb ⟨vb, rfl, hob, hbb⟩; have hbb' := Below.then_ ((Below.refl wa.heap.size wa).drew) hbb)
      | (go_at_call 20; refine (eqNetwork_any _ _ N N _ ((HO6.out.below (Below.then_ HDa.out hbb')).net HS.out) (hob.net HS.out)).mono ?_; rw [sameN_refl]; rintro e wc ⟨rfl, hbc⟩; have hbc' := Below.then_ hbb' hbc))
  have HOb := Lib.hid (HOa.out.below hbc')
  have HBb := Lib.hid (Below.then_ HBa.out hbc')
  have HDb := Lib.hid (Below.then_ HDa.out hbc')
  have HEb := Lib.hid (Below.then_ HEa.out hbc')
  have HFb := Lib.hid (Below.then_ HFa.out hbc')
  have HCb := Lib.hid (Below.then_ HCa.out hbc')
  have HKb := Lib.hid (HKa.out.below hbc')
  have HXb := Lib.hid (HXa.out.below hbc')
  have hzb : wa.heap.size ≤ wc.heap.size := hbc'.size
  clear hob hbb hbb' hbc hbc' HOa HXa HBa HDa HEa HFa HCa HKa
  go_wp2_with fail
  refine (toIntS_any _ ps _ (HPR.out.below HBb.out) (by omega)).mono ?_
  rintro e wd ⟨vd, rfl, hod, hbd⟩
  go_wp2_with fail
  refine (eqIntS_any _ _ ps ps wd (HO7.out.below (Below.then_ HEb.out hbd)).ints hod.ints).mono ?_
  rw [sameB_refl]
  rintro e we ⟨rfl, nd1, rfl⟩
  have hbe := below_drewN hbd nd1
  have HOe := Lib.hid (HOb.out.below hbe)
  have HBe := Lib.hid (Below.then_ HBb.out hbe)
  have HDe := Lib.hid (Below.then_ HDb.out hbe)
  have HEe := Lib.hid (Below.then_ HEb.out hbe)
  have HFe := Lib.hid (Below.then_ HFb.out hbe)
  have HCe := Lib.hid (Below.then_ HCb.out hbe)
  have HKe := Lib.hid (HKb.out.below hbe)
  have HXe := Lib.hid (HXb.out.below hbe)
  have hze : wc.heap.size ≤ (wd.drewN nd1).heap.size := hbe.size
  clear hod hbd hbe HOb HXb HBb HDb HEb HFb HCb HKb
  go_wp2_with fail
  generalize wd.drewN nd1 = we at *
  refine (toIntS_any _ vals _ (HVR.out.below HBe.out) (by omega)).mono ?_
  rintro e wf ⟨vf, rfl, hof, hbf⟩
  go_wp2_with fail
  refine (eqIntS_any _ _ vals vals wf (HO8.out.below (Below.then_ HFe.out hbf)).ints hof.ints).mono ?_
  rw [sameB_refl]
  rintro e wg ⟨rfl, nd2, rfl⟩
  have hbg := below_drewN hbf nd2
  have HOg := Lib.hid (HOe.out.below hbg)
  have HBg := Lib.hid (Below.then_ HBe.out hbg)
  have HDg := Lib.hid (Below.then_ HDe.out hbg)
  have HEg := Lib.hid (Below.then_ HEe.out hbg)
  have HFg := Lib.hid (Below.then_ HFe.out hbg)
  have HCg := Lib.hid (Below.then_ HCe.out hbg)
  have HKg := Lib.hid (HKe.out.below hbg)
  have HXg := Lib.hid (HXe.out.below hbg)
  have hzg : we.heap.size ≤ (wf.drewN nd2).heap.size := hbg.size
  have kx := HXg.out.cell
  clear hof hbf hbg HOe HXe HBe HDe HEe HFe HCe HKe
  go_wp2_with fail
  clear kx
  generalize wf.drewN nd2 = wg at *
  refine (markNetwork_any w5.heap.size _ N 1 w6 wg HO6.out HS.out HDg.out (by omega) (by omega)).mono ?_
  rintro e wh ⟨rh, rfl, hr3, hr4, hmh⟩
  have HMh := Lib.hid (hmh.wider (C' := w8.heap.size) (Nat.le_refl _) (by omega))
  have HO7h := Lib.hid ((HO7.out.below HEg.out).marked hmh fun g hg => .inr (by have := (HO7.out.lt g hg).1; omega))
  have HO8h := Lib.hid ((HO8.out.below HFg.out).marked hmh fun g hg => .inr (by have := (HO8.out.lt g hg).1; omega))
  clear hmh
  go_wp2_with fail
  refine (markIntS_any _ _ ps rh wh HO7h.out (by omega) (by omega) (by omega)).mono ?_
  rintro e wi ⟨rfl, -, hgi, -⟩
  have hmi : Marked (w6.heap.size + 1) w7.heap.size wh wi := Marked.of_grown hgi HO7.out.lt
  have HMi := Lib.hid (HMh.out.trans (hmi.wider (by omega) (by omega)))
  have HO8i := Lib.hid (HO8h.out.marked hmi fun g hg => .inr ((HO8.out.lt g hg).1))
  clear hgi hmi HMh HO7h HO8h
  go_wp2_with fail
  refine (markIntS_any _ _ vals (rh + ps.length) wi HO8i.out (by omega) (by omega) (by omega)).mono ?_
  rintro e wj ⟨rfl, -, hgj, -⟩
  have hmj : Marked w7.heap.size w8.heap.size wi wj := Marked.of_grown hgj HO8.out.lt
  have hMj : Marked w5.heap.size w8.heap.size wg wj := HMi.out.trans (hmj.wider (by omega) (Nat.le_refl _))
  have HO9j := Lib.hid (HOg.out.marked hMj fun g hg => .inr (HOg.out.lt g hg).1)
  have HO5j := Lib.hid ((HO5.out.below HCg.out).marked hMj fun g hg => .inl (HZ5.out g hg))
  have HBj := Lib.hid (HBg.out.trans (hMj.below (D := w.heap.size) (by omega) (by omega)))
  have HKj := Lib.hid (HKg.out.marked hMj (by omega))
  have hzj : wg.heap.size ≤ wj.heap.size := hMj.size
  clear hgj hmj hMj HMi HO8i HOg HBg HDg HEg HFg HCg HKg HXg
  have e4 : ¬ rh + (ps.length : Int) + (vals.length : Int) < 0 := by omega
  go_wp2_with fail
  refine (eqIntS_any _ _ s s wj HO9j.out.ints HO5j.out.ints).mono ?_
  rw [sameB_refl]
  rintro e wk ⟨rfl, nd3, rfl⟩
  have hbk : Below wj.heap.size wj (wj.drewN nd3) := below_drewN (Below.refl _ _) nd3
  have HO9k := Lib.hid (HO9j.out.below hbk)
  have HO5k := Lib.hid (HO5j.out.below hbk)
  have HBk := Lib.hid (Below.then_ HBj.out hbk)
  have HKk := Lib.hid (HKj.out.below hbk)
  have hzk : wj.heap.size ≤ (wj.drewN nd3).heap.size := Nat.le_refl _
  clear hbk HO9j HO5j HBj HKj
  go_wp2_with fail
  generalize wj.drewN nd3 = wk at *
  refine (markIntS_any _ _ s 1 wk HO9k.out (by omega) (by omega) (by omega)).mono ?_
  rintro e wl ⟨rfl, ho9l, hgl, -⟩
  have hml : Marked w8.heap.size wk.heap.size wk wl := Marked.of_grown hgl HO9k.out.lt
  have HO9l := Lib.hid ho9l
  have HO5l := Lib.hid (HO5k.out.marked hml fun g hg => .inl (by have := HZ5.out g hg; omega))
  have HBl := Lib.hid (HBk.out.trans (hml.below (D := w.heap.size) (by omega) (by omega)))
  have HKl := Lib.hid (HKk.out.marked hml (by omega))
  have hzl : wk.heap.size ≤ wl.heap.size := hml.size
  clear ho9l hgl hml HO9k HO5k HBk HKk
  go_wp2_with fail
  refine (heldIntS_any _ _ 1 s.length wl HO9l.out (by omega) (by omega) (by omega)).mono ?_
  rintro e wm ⟨rfl, rfl⟩
  have e5 : ¬ 1 + (s.length : Int) < 0 := by omega
  have e6 : ((1 + (s.length : Int)) != (1 + (s.length : Int))) = false := by simp
  have kl := HKl.out.cell
  go_wp2_with fail
  clear kl
  refine (toNetwork_any _ N wl (HNR.out.below HBl.out) HS.out).mono ?_
  rintro e wn ⟨vn', rfl, hon, hbn⟩
  have HOn := Lib.hid hon
  have HBn := Lib.hid (Below.then_ HBl.out hbn)
  have HLn := Lib.hid hbn
  clear hon hbn
  go_wp2_with fail
  refine (toIntS_any _ ps wn (HPR.out.below HBn.out) (by omega)).mono ?_
  rintro e wo ⟨vo, rfl, hoo, hbo⟩
  have HOo := Lib.hid hoo
  have HCo := Lib.hid hbo
  have HBo := Lib.hid (Below.then_ HBn.out hbo)
  have HLo := Lib.hid (Below.then_ HLn.out hbo)
  clear hoo hbo HBn HLn
  go_wp2_with fail
  refine (toIntS_any _ vals wo (HVR.out.below HBo.out) (by omega)).mono ?_
  rintro e wp ⟨vp, rfl, hop, hbp⟩
  have HOp := Lib.hid hop
  have HCp := Lib.hid hbp
  have HBp := Lib.hid (Below.then_ HBo.out hbp)
  have HLp := Lib.hid (Below.then_ HLo.out hbp)
  clear hop hbp HBo HLo
  go_wp2_with fail
  refine (implSumUp_any vn' vo vp N ps vals wp ((HOn.out.below (Below.then_ HCo.out HCp.out)).net HS.out) (HOo.out.below HCp.out).ints HOp.out.ints (by have := HS.out.2.1; omega) (by omega)).mono ?_
  intro e wq hq
  obtain ⟨vq, s', hh', bb', ok', rfl, hoq, hresq, hbq⟩ := hq.two
  clear hq
  obtain ⟨rfl, rfl, rfl, rfl⟩ := HR5.out.unique hresq
  clear hresq
  have HOq := Lib.hid hoq
  have HBq := Lib.hid (Below.then_ HBp.out hbq)
  have HLq := Lib.hid (Below.then_ HLp.out hbq)
  clear hoq hbq HBp HLp HOn HOo HOp HCo HCp
  go_wp2_with fail
  refine (eqIntS_any _ _ s s wq HOq.out.ints (HO5l.out.below HLq.out).ints).mono ?_
  rw [sameB_refl]
  rintro e wr ⟨rfl, nd4, rfl⟩
  have hbr : Below wq.heap.size wq (wq.drewN nd4) := below_drewN (Below.refl _ _) nd4
  have HBr := Lib.hid (Below.then_ HBq.out hbr)
  have HO9r := Lib.hid (HO9l.out.below (Below.then_ HLq.out hbr))
  clear hbr
  go_wp2_with fail
  generalize wq.drewN nd4 = wr at *
  refine (heldIntS_any _ _ 1 s.length wr HO9r.out (by omega) (by omega) (by omega)).mono ?_
  rintro e ws ⟨rfl, rfl⟩
  go_wp2_with fail
  go_ret
  exact ⟨rfl, HBr.out⟩
end Go.Proofs.Ytcjghlplkbpjcaa
