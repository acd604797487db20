/- The statement's function FnExactCountUp returns true for every network and all lists, and writes nothing that was there. -/
import Derived.Test.YtcjghlplkbpjcaaIm8
import Derived.Test.YtcjghlplkbpjcaaLh7
import Derived.Test.YtcjghlplkbpjcaaRd
import Derived.Deep.RegionHeld3
namespace Go.Proofs.Ytcjghlplkbpjcaa
open Go.RowKit

/-- what CountUp gives, in both cases -/
def CountRes (N : Net) (ps : List Int) (a b : Int) (ok : Bool) : Prop :=
  (SumOk N ps (List.replicate ps.length 1) ∧ (∃ (s : List Int) (h c : Int), SumIs N ps (List.replicate ps.length 1) s h c ∧ a = ps.length ∧ b = c - ps.length + 1) ∧ ok = true) ∨ (¬ SumOk N ps (List.replicate ps.length 1) ∧ a = 0 ∧ b = 0 ∧ ok = false)
theorem CountRes.unique {N : Net} {ps : List Int} {a a' b b' : Int} {ok ok' : Bool} (x : CountRes N ps a b ok) (y : CountRes N ps a' b' ok') : a = a' ∧ b = b' ∧ ok = ok' := by
  rcases x with ⟨x1, ⟨s, h, c, x2, rfl, rfl⟩, rfl⟩ | ⟨x1, rfl, rfl, rfl⟩
  · rcases y with ⟨_, ⟨s', h', c', y2, rfl, rfl⟩, rfl⟩ | ⟨y1, _⟩
    · obtain ⟨rfl, rfl, rfl⟩ := x2.unique x1.1 y2
      exact ⟨rfl, rfl, rfl⟩
    · exact absurd x1 y1
  · rcases y with ⟨y1, _⟩ | ⟨_, rfl, rfl, rfl⟩
    · exact absurd y1 x1
    · exact ⟨rfl, rfl, rfl⟩
def RetCount2 (N : Net) (ps : List Int) (w : World) (e : Ending) (w' : World) : Prop :=
  ∃ (a b : Int) (ok : Bool), e = .returned (.tuple #[.int .i64 a, .int .i64 b, .bool ok]) ∧ CountRes N ps a b ok ∧ Below w.heap.size w w'
theorem RetCount.two {N : Net} {ps : List Int} {w w' : World} {e : Ending} (h : RetCount N ps w e w') : RetCount2 N ps w e w' := by
  obtain ⟨hb, ⟨h1, s, h, b, h2, rfl⟩ | ⟨h1, rfl⟩⟩ := h
  · exact ⟨_, _, true, rfl, .inl ⟨h1, ⟨s, h, b, h2, rfl, rfl⟩, rfl⟩, hb⟩
  · exact ⟨0, 0, false, rfl, .inr ⟨h1, rfl, rfl, rfl⟩, hb⟩

theorem cells6 {W : World} {g g' : Nat} {t t' : TypeId} {a b c a' b' c' : Value} (h : Blk W g t #[a, b, c]) (h' : Blk W g' t' #[a', b', c']) :
    W.cell? ⟨g, 0, none⟩ = some a ∧ W.cell? ⟨g, 1, none⟩ = some b ∧ W.cell? ⟨g, 2, none⟩ = some c ∧ W.cell? ⟨g', 0, none⟩ = some a' ∧ W.cell? ⟨g', 1, none⟩ = some b' ∧ W.cell? ⟨g', 2, none⟩ = some c' :=
  ⟨by rw [h.cell]; rfl, by rw [h.cell]; rfl, by rw [h.cell]; rfl, by rw [h'.cell]; rfl, by rw [h'.cell]; rfl, by rw [h'.cell]; rfl⟩

set_option maxRecDepth 100000 in
set_option maxHeartbeats 8000000 in
theorem lawCountUp (v u : Value) (N : Net) (ps : List Int) (w : World) (h : NetR w anyB v N) (hp : IntsR w anyB u ps) :
    Calls Try.prog 6 #[v, u] w (RetV w (.bool true)) := by
  have hpb := hp.bound
  have HNR := Lib.hid h
  have HPR := Lib.hid hp
  obtain ⟨ve, vi, vn, rfl, he, hi, hn⟩ := h
  obtain ⟨A, c, rfl, -, -, -⟩ := he
  obtain ⟨A1, c1, rfl, -, -, -⟩ := hi
  obtain ⟨A2, c2, rfl, -, -, -⟩ := hn
  obtain ⟨A3, c3, rfl, -, -, -⟩ := hp
  have hb0 : ∀ o1, Below w.heap.size w (w.alloc o1) := fun o1 => (Below.refl _ _).alloc (Nat.le_refl _) _
  have HB0 := Lib.hid hb0
  have HK0 := Lib.hid (Blk.new w 38 #[.slice A N.ends.length c, .slice A1 N.ids.length c1, .slice A2 N.inputs.length c2])
  clear hb0
  by_cases hp1 : 1048576 < ps.length
  · go_enter Try.func6, Try.ntmps6
    go_wp2_with fail
    go_ret
    exact ⟨rfl, HB0.out _⟩
  go_enter Try.func6, Try.ntmps6
  go_wp2_with fail
  refine (szNetwork_any _ N 1048576 _ (HNR.out.below (HB0.out _)) (by omega) (by omega)).mono ?_
  rintro e w1 ⟨r, rfl, hr1, hr2, hsh, hb1⟩
  have HB1 := Lib.hid (Below.then_ (HB0.out _) hb1)
  have HK1 := Lib.hid (HK0.out.below hb1)
  have HSH := Lib.hid hsh
  clear hsh hb1
  by_cases hneg : r < 0
  · go_wp2_with fail
    go_ret
    exact ⟨rfl, HB1.out⟩
  have hsh := HSH.out (by omega)
  have HS := Lib.hid hsh
  clear hsh HSH
  have k1 := HK1.out.cell
  go_wp2_with fail
  clear k1
  refine (toNetwork_any _ N w1 (HNR.out.below HB1.out) HS.out).mono ?_
  rintro e w2 ⟨v2, rfl, ho2, hb2⟩
  have HO2 := Lib.hid ho2
  have HB2 := Lib.hid (Below.then_ HB1.out hb2)
  have HK2 := Lib.hid (HK1.out.below hb2)
  clear ho2 hb2
  go_wp2_with fail
  refine (toIntS_any _ ps w2 (HPR.out.below HB2.out) (by omega)).mono ?_
  rintro e w3 ⟨v3, rfl, ho3, hb3⟩
  have HO3 := Lib.hid ho3
  have HC3 := Lib.hid hb3
  have HB3 := Lib.hid (Below.then_ HB2.out hb3)
  have HK3 := Lib.hid (HK2.out.below hb3)
  clear ho3 hb3
  go_wp2_with fail
  refine (specCountUp_any v2 v3 N ps w3 ((HO2.out.below HC3.out).net HS.out) HO3.out.ints (by omega)).mono ?_
  intro e w5 h5
  obtain ⟨aa, bb, ok, rfl, hres5, hb5⟩ := h5.two
  clear h5
  have HR5 := Lib.hid hres5
  have HB5 := Lib.hid (Below.then_ HB3.out hb5)
  have HK5 := Lib.hid (HK3.out.below hb5)
  clear hres5 hb5 HO2 HO3 HC3 HK1 HK2 HK3 HB2 HB3
  have k5 := HK5.out.cell
  go_wp2_with fail
  clear k5
  refine (toNetwork_any _ N w5 (HNR.out.below HB5.out) HS.out).mono ?_
  rintro e w6 ⟨v6, rfl, ho6, hb6⟩
  have HO6 := Lib.hid ho6
  have HC6 := Lib.hid hb6
  obtain ⟨xe, xi, xn, rfl, hxe, hxi, hxn⟩ := ho6
  obtain ⟨A6, c6, rfl⟩ := hxe.shape
  obtain ⟨A7, c7, rfl⟩ := hxi.shape
  obtain ⟨A8, c8, rfl⟩ := hxn.shape
  clear hb6 hxe hxi hxn
  go_wp2_with fail
  have hba : Below w6.heap.size w6 (w6.alloc (.cells #[.slice A6 N.ends.length c6, .slice A7 N.ids.length c7, .slice A8 N.inputs.length c8] 44)) := (Below.refl _ _).alloc (Nat.le_refl _) _
  have HX6 := Lib.hid (Blk.new w6 44 #[.slice A6 N.ends.length c6, .slice A7 N.ids.length c7, .slice A8 N.inputs.length c8])
  have HB6 := Lib.hid (Below.then_ HB5.out (Below.then_ HC6.out hba))
  have HD6 := Lib.hid hba
  have HC56 := Lib.hid (Below.then_ HC6.out hba)
  clear hba HC6
  refine (toIntS_any _ ps _ (HPR.out.below HB6.out) (by omega)).mono ?_
  rintro e w7 ⟨v7, rfl, ho7, hb7⟩
  have HO7 := Lib.hid ho7
  have HX7 := Lib.hid (HX6.out.below hb7)
  have HB7 := Lib.hid (Below.then_ HB6.out hb7)
  have HD7 := Lib.hid (Below.then_ HD6.out hb7)
  have HC57 := Lib.hid (Below.then_ HC56.out hb7)
  clear ho7 hb7 HX6 HB6 HD6 HC56
  have kx := HX7.out.cell
  go_wp2_with fail
  clear kx
  refine (implCountUp_any _ v7 N ps w7 ((HO6.out.below HD7.out).net HS.out) HO7.out.ints (by have := HS.out.2.1; omega) (by have := HS.out.1.1; omega)).mono ?_
  intro e w9 h9
  obtain ⟨aa', bb', ok', rfl, hres9, hb9⟩ := h9.two
  clear h9
  obtain ⟨rfl, rfl, rfl⟩ := HR5.out.unique hres9
  clear hres9
  have HX9 := Lib.hid (HX7.out.below hb9)
  have HB9 := Lib.hid (Below.then_ HB7.out hb9)
  have HD9 := Lib.hid (Below.then_ HD7.out hb9)
  have HE9 := Lib.hid hb9
  have HK9 := Lib.hid (HK5.out.below (Below.then_ HC57.out hb9))
  clear hb9 HX7 HB7 HD7 HC57
  have e1 : (aa != aa) = false := by simp
  have e2 : (bb != bb) = false := by simp
  have e3 : (ok != ok) = false := by simp
  go_wp2_with fail
  go_region_held3 (fun W => W.cell? ⟨w6.heap.size, 0, none⟩ = some (.slice A6 N.ends.length c6) ∧ W.cell? ⟨w6.heap.size, 1, none⟩ = some (.slice A7 N.ids.length c7) ∧ W.cell? ⟨w6.heap.size, 2, none⟩ = some (.slice A8 N.inputs.length c8) ∧
      W.cell? ⟨w.heap.size, 0, none⟩ = some (.slice A N.ends.length c) ∧ W.cell? ⟨w.heap.size, 1, none⟩ = some (.slice A1 N.ids.length c1) ∧ W.cell? ⟨w.heap.size, 2, none⟩ = some (.slice A2 N.inputs.length c2))
    (first | exact cells6 HX9.out HK9.out | exact cells6 (HX9.out.below hbb') (HK9.out.below hbb') | exact cells6 (HX9.out.below hbc') (HK9.out.below hbc'))
    (first
      | (go_at_call 16; refine (toNetwork_any _ N _ (HNR.out.below (HB9.out.drew)) HS.out).mono ?_; rintro e wb ⟨vb, rfl, hob, hbb⟩; have hbb' := Below.then_ ((Below.refl w9.heap.size w9).drew) hbb)
      | (go_at_call 20; refine (eqNetwork_any _ _ N N _ ((HO6.out.below (Below.then_ HD9.out hbb')).net HS.out) (hob.net HS.out)).mono ?_; rw [sameN_refl]; rintro e wc ⟨rfl, hbc⟩; have hbc' := Below.then_ hbb' hbc))
  have HBb := Lib.hid (Below.then_ HB9.out hbc')
  have HEb := Lib.hid (Below.then_ HE9.out hbc')
  clear hob hbb hbb' hbc hbc' HX9 HB9 HD9 HE9 HK9
  go_wp2_with fail
  refine (toIntS_any _ ps _ (HPR.out.below HBb.out) (by omega)).mono ?_
  rintro e wd ⟨vd, rfl, hod, hbd⟩
  go_wp2_with fail
  refine (eqIntS_any _ _ ps ps wd (HO7.out.below (Below.then_ HEb.out hbd)).ints hod.ints).mono ?_
  rw [sameB_refl]
  rintro e we ⟨rfl, nd1, rfl⟩
  have HBe := Lib.hid (Below.then_ HBb.out (below_drewN hbd nd1))
  clear hod hbd HBb HEb
  go_wp2_with fail
  go_ret
  exact ⟨rfl, HBe.out⟩
end Go.Proofs.Ytcjghlplkbpjcaa
