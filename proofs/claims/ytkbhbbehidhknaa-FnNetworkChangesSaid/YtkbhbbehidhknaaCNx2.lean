/- The reference's PermutePorts. -/
import Derived.Test.YtkbhbbehidhknaaCJn15
import Derived.Test.YtkbhbbehidhknaaCNw4
import Derived.Test.YtkbhbbehidhknaaCJn1
namespace Go.Proofs.Ytkbhbbehidhknaa
open Go.RowKit

noncomputable def portsOk (N : Net) (v : Int) (π : List Int) : Bool := nodeB N v && permB π (dg N.ends v.toNat)

set_option maxRecDepth 100000 in
set_option maxHeartbeats 2000000 in
theorem specPermutePorts_any {S S' : Nat → Prop} (u pv : Value) (N : Net) (v : Int) (π : List Int) (w : World) (h : NetR w S u N) (hp : IntsR w S' pv π) (hs : Small N) :
    Calls Try.prog 13 #[u, .int .i64 v, pv] w (RetNO w (portsN N v.toNat π) (portsOk N v π)) := by
  have HNR := Lib.hid h
  have HS := Lib.hid hs
  have hs1 := hs.1
  obtain ⟨ve, vi, vn, rfl, he, hi, hn⟩ := h
  have HPV := Lib.hid hp
  obtain ⟨A, c, rfl, -, -, hxe⟩ := he
  have HXE := Lib.hid hxe
  obtain ⟨Ap, cp, rfl, -, -, -⟩ := hp
  obtain ⟨A1, c1, rfl, -, -, -⟩ := hi
  obtain ⟨A2, c2, rfl, -, -, -⟩ := hn
  obtain ⟨wz, hwz⟩ : ∃ wz, wz = (w.alloc (.cells #[.slice A N.ends.length c, .slice A1 N.ids.length c1, .slice A2 N.inputs.length c2] 27)).alloc (.cells #[.slice none 0 0, .slice none 0 0, .slice none 0 0] 27) := ⟨_, rfl⟩
  have hzs : wz.heap.size = w.heap.size + 1 + 1 := by rw [hwz]; simp
  have HBz : Hid (Below w.heap.size w wz) := Lib.hid (by rw [hwz]; exact ((Below.refl _ _).alloc (Nat.le_refl _) _).alloc (by simp) _)
  have HK : Hid (Blk wz w.heap.size 27 #[.slice A N.ends.length c, .slice A1 N.ids.length c1, .slice A2 N.inputs.length c2]) := Lib.hid (by rw [hwz]; exact (Blk.new w _ _).alloc _)
  have HR : Hid (Blk wz (w.heap.size + 1) 27 #[.slice none 0 0, .slice none 0 0, .slice none 0 0]) := Lib.hid (by
    rw [hwz]
    have := Blk.new (w.alloc (.cells #[.slice A N.ends.length c, .slice A1 N.ids.length c1, .slice A2 N.inputs.length c2] 27)) 27 #[.slice none 0 0, .slice none 0 0, .slice none 0 0]
    rwa [World.size_alloc] at this)
  have HZ := Lib.hid hwz
  have hpair : ∀ (x y z : Value) (w' : World), Blk w' (w.heap.size + 1) 27 #[.slice none 0 0, .slice none 0 0, .slice none 0 0] → Below w.heap.size w w' →
      Blk (set3 w' (w.heap.size + 1) x y z) (w.heap.size + 1) 27 #[x, y, z] ∧ Below w.heap.size w (set3 w' (w.heap.size + 1) x y z) := fun x y z w' hb hw => ⟨set3_blk hb, set3_below hw (by omega) x y z⟩
  have HP := Lib.hid hpair
  clear hwz hpair hs hxe
  cases hg : nodeB N v
  · have HG := Lib.hid hg
    clear hg
    go_enter Try.func13, Try.ntmps13
    go_wp2_with fail
    rw [← HZ.out]
    refine (neNode_any _ N v wz (HNR.out.below HBz.out)).mono ?_
    rintro e w1 ⟨rfl, hb1⟩
    rw [HG.out]
    have hr1 := HR.out.below hb1
    have k2 := hr1.cell
    have f2 := hr1.free
    have HF := Lib.hid (HP.out (.slice none 0 0) (.slice none 0 0) (.slice none 0 0) w1 hr1 (Below.then_ HBz.out hb1))
    clear hr1 hb1
    go_wp2_with fail
    have hcc := HF.out.1.cell
    unfold set3 at hcc
    refine bodyPost_ret (v := .tuple #[zeroNet, .bool false]) ?_ rfl ?_
    · simp [results, Try.results13, go_sem, hcc, zeroNet]
    · exact ⟨HF.out.2, .inr ⟨by unfold portsOk; rw [HG.out]; rfl, rfl⟩⟩
  · have HG := Lib.hid hg
    clear hg
    have hvg := HG.out
    unfold nodeB at hvg
    simp only [Bool.and_eq_true] at hvg
    obtain ⟨hgood, hvn⟩ := hvg
    have HSY := Lib.hid (endsOk_iff.1 (goodB_iff.1 hgood).2.2.2.2).2
    obtain ⟨vn, rfl, hvl⟩ := inB_nat hvn
    obtain ⟨be, offe, rfl, -, hce⟩ := HXE.out (by omega)
    obtain ⟨uv, huv, hrv⟩ := hce vn hvl
    obtain ⟨Av, cv, rfl, hnv, hmv, -⟩ := hrv
    unfold maxLen at hmv
    have hsv := HS.out.2.1 vn hvl
    have HUV := Lib.hid huv
    have iv1 : (0 : Int) ≤ (vn : Int) := by omega
    have iv2 : (vn : Int) < (N.ends.length : Int) := by omega
    clear hgood hvn hce huv
    cases hpb : permB π (gl N.ends vn).length
    · have HX := Lib.hid hpb
      clear hpb
      go_enter Try.func13, Try.ntmps13
      go_wp2_with fail
      rw [← HZ.out]
      refine (neNode_any _ N vn wz (HNR.out.below HBz.out)).mono ?_
      rintro e w1 ⟨rfl, hb1⟩
      rw [HG.out]
      have hr1 := HR.out.below hb1
      have hB1 := Below.then_ HBz.out hb1
      have kb := (HK.out.below hb1).cell
      have k2 := hr1.cell
      have f2 := hr1.free
      have kuv : w1.cell? ⟨be, offe + vn, none⟩ = some (.slice Av (gl N.ends vn).length cv) := (hB1.cell (p := ⟨be, offe + vn, none⟩) (lt_of_cell HUV.out)).trans HUV.out
      have HF := Lib.hid (HP.out (.slice none 0 0) (.slice none 0 0) (.slice none 0 0) w1 hr1 hB1)
      have HPW := Lib.hid (HPV.out.below hB1)
      clear hr1 hb1 hB1
      go_wp2_with (go_at_call 39; refine (nePerm_any _ π _ _ HPW.out (by omega)).mono ?_; rintro e w2 ⟨rfl, rfl⟩; rw [HX.out])
      have hcc := HF.out.1.cell
      unfold set3 at hcc
      refine bodyPost_ret (v := .tuple #[zeroNet, .bool false]) ?_ rfl ?_
      · simp [results, Try.results13, go_sem, hcc, zeroNet]
      · exact ⟨HF.out.2, .inr ⟨by unfold portsOk dg; rw [HG.out, Int.toNat_natCast, HX.out]; rfl, rfl⟩⟩
    · have HX := Lib.hid hpb
      clear hpb
      go_enter Try.func13, Try.ntmps13
      go_wp2_with fail
      rw [← HZ.out]
      refine (neNode_any _ N vn wz (HNR.out.below HBz.out)).mono ?_
      rintro e w1 ⟨rfl, hb1⟩
      rw [HG.out]
      have hB1 := Below.then_ HBz.out hb1
      have kb := (HK.out.below hb1).cell
      have kuv : w1.cell? ⟨be, offe + vn, none⟩ = some (.slice Av (gl N.ends vn).length cv) := (hB1.cell (p := ⟨be, offe + vn, none⟩) (lt_of_cell HUV.out)).trans HUV.out
      have HB1 := Lib.hid hb1
      have HPW := Lib.hid (HPV.out.below hB1)
      have HNW := Lib.hid (HNR.out.below hB1)
      clear hb1 hB1
      go_wp2_with (go_at_call 39; refine (nePerm_any _ π _ _ HPW.out (by omega)).mono ?_; rintro e w2 ⟨rfl, rfl⟩; rw [HX.out])
      clear kb kuv
      obtain ⟨J, hJ⟩ : ∃ J, J = portsN N vn π := ⟨_, rfl⟩
      have HJ := Lib.hid hJ
      refine (nePorts_any _ _ N vn π w1 HNW.out HPW.out HS.out hvl HSY.out (permB_perm HX.out)).mono ?_
      rintro e w2 ⟨v2, rfl, ho2, hb2⟩
      rw [← hJ] at ho2
      clear hJ
      have HO2 := Lib.hid ho2
      have HB2 := Lib.hid (Below.then_ HB1.out hb2)
      obtain ⟨E0, e0, E1, e1, E2, e2, rfl⟩ := ho2.parts
      have hz2 := HB2.out.size
      have hzw := HB1.out.size
      have hr3 := HR.out.below HB2.out
      have k2 := hr3.cell
      have f2 := hr3.free
      have HF := Lib.hid (HP.out (.slice E0 J.ends.length e0) (.slice E1 J.ids.length e1) (.slice E2 J.inputs.length e2) w2 hr3 (Below.then_ HBz.out HB2.out))
      have hkp : ∀ b, w1.heap.size ≤ b → b < w2.heap.size → (set3 w2 (w.heap.size + 1) (.slice E0 J.ends.length e0) (.slice E1 J.ids.length e1) (.slice E2 J.inputs.length e2)).heap[b]? = w2.heap[b]? := fun b hb _ => set3_block _ _ _ _ _ (by omega)
      have HKP := Lib.hid hkp
      clear ho2 hb2 hr3 hkp
      go_wp2_with fail
      have hcc := HF.out.1.cell
      unfold set3 at hcc
      refine bodyPost_ret (v := .tuple #[.agg #[.slice E0 J.ends.length e0, .slice E1 J.ids.length e1, .slice E2 J.inputs.length e2], .bool true]) ?_ rfl ?_
      · simp [results, Try.results13, go_sem, hcc]
      · refine ⟨HF.out.2, .inl ⟨by unfold portsOk dg; rw [HG.out, Int.toNat_natCast, HX.out]; rfl, _, rfl, ?_⟩⟩
        rw [Int.toNat_natCast, ← HJ.out]
        exact (HO2.out.keepB HKP.out).mono (by omega)
end Go.Proofs.Ytkbhbbehidhknaa
