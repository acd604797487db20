/- Parts of the proof, joined: Nx1, Nx3. -/
import Derived.Test.YtkbhbbehidhknaaCJn14
import Derived.Test.YtkbhbbehidhknaaCJn2
namespace Go.Proofs.Ytkbhbbehidhknaa
open Go.RowKit

def zeroNet : Value := .agg #[.slice none 0 0, .slice none 0 0, .slice none 0 0]
/-- a network of its own and true, or the empty one and false -/
def RetNO (w : World) (N : Net) (ok : Bool) (e : Ending) (w' : World) : Prop :=
  Below w.heap.size w w' ∧ ((ok = true ∧ ∃ v, e = .returned (.tuple #[v, .bool true]) ∧ OwnNt w' w.heap.size v N) ∨ (ok = false ∧ e = .returned (.tuple #[zeroNet, .bool false])))

noncomputable def addOk (N : Net) (v x : Int) : Bool := nodeB N v && inB x 0 ((N.ends.length : Int) - 1) && goodB (joinN N v.toNat x.toNat)

theorem inB_nat {v : Int} {n : Nat} (h : inB v 0 ((n : Int) - 1) = true) : ∃ k : Nat, v = k ∧ k < n := by
  obtain ⟨h1, h2⟩ := inB_iff.1 h
  exact ⟨v.toNat, by omega, by omega⟩

set_option maxRecDepth 100000 in
set_option maxHeartbeats 2000000 in
theorem specAddEdge_any {S : Nat → Prop} (u : Value) (N : Net) (v x : Int) (w : World) (h : NetR w S u N) (hs : Small N) :
    Calls Try.prog 7 #[u, .int .i64 v, .int .i64 x] w (RetNO w (joinN N v.toNat x.toNat) (addOk N v x)) := by
  have HNR := Lib.hid h
  have HS := Lib.hid hs
  have hs1 := hs.1
  obtain ⟨ve, vi, vn, rfl, he, hi, hn⟩ := h
  obtain ⟨A, c, rfl, -, -, -⟩ := he
  obtain ⟨A1, c1, rfl, -, -, -⟩ := hi
  obtain ⟨A2, c2, rfl, -, -, -⟩ := hn
  obtain ⟨wz, hwz⟩ : ∃ wz, wz = (w.alloc (.cells #[.slice A N.ends.length c, .slice A1 N.ids.length c1, .slice A2 N.inputs.length c2] 27)).alloc (.cells #[.slice none 0 0, .slice none 0 0, .slice none 0 0] 27) := ⟨_, rfl⟩
  have hzs : wz.heap.size = w.heap.size + 1 + 1 := by rw [hwz]; simp
  have HBz : Hid (Below w.heap.size w wz) := Lib.hid (by rw [hwz]; exact ((Below.refl _ _).alloc (Nat.le_refl _) _).alloc (by simp) _)
  have HK : Hid (Blk wz w.heap.size 27 #[.slice A N.ends.length c, .slice A1 N.ids.length c1, .slice A2 N.inputs.length c2]) := Lib.hid (by rw [hwz]; exact (Blk.new w _ _).alloc _)
  have HR : Hid (Blk wz (w.heap.size + 1) 27 #[.slice none 0 0, .slice none 0 0, .slice none 0 0]) := Lib.hid (by
    rw [hwz]
    have := Blk.new (w.alloc (.cells #[.slice A N.ends.length c, .slice A1 N.ids.length c1, .slice A2 N.inputs.length c2] 27)) 27 #[.slice none 0 0, .slice none 0 0, .slice none 0 0]
    rwa [World.size_alloc] at this)
  have HZ := Lib.hid hwz
  have hpair : ∀ (x y z : Value) (w' : World), Blk w' (w.heap.size + 1) 27 #[.slice none 0 0, .slice none 0 0, .slice none 0 0] → Below w.heap.size w w' →
      Blk (set3 w' (w.heap.size + 1) x y z) (w.heap.size + 1) 27 #[x, y, z] ∧ Below w.heap.size w (set3 w' (w.heap.size + 1) x y z) := fun x y z w' hb hw => ⟨set3_blk hb, set3_below hw (by omega) x y z⟩
  have HP := Lib.hid hpair
  have hw1 : IntKind.i64.wrap ((N.ends.length : Int) - 1) = (N.ends.length : Int) - 1 := IntWalk.i64_in _ (by omega)
  clear hwz hpair hs
  cases hg : nodeB N v
  · have HG := Lib.hid hg
    clear hg
    go_enter Try.func7, Try.ntmps7
    go_wp2_with fail
    rw [← HZ.out]
    refine (neNode_any _ N v wz (HNR.out.below HBz.out)).mono ?_
    rintro e w1 ⟨rfl, hb1⟩
    rw [HG.out]
    have hr1 := HR.out.below hb1
    have k2 := hr1.cell
    have f2 := hr1.free
    have HF := Lib.hid (HP.out (.slice none 0 0) (.slice none 0 0) (.slice none 0 0) w1 hr1 (Below.then_ HBz.out hb1))
    clear hr1 hb1
    go_wp2_with fail
    have hcc := HF.out.1.cell
    unfold set3 at hcc
    refine bodyPost_ret (v := .tuple #[zeroNet, .bool false]) ?_ rfl ?_
    · simp [results, Try.results7, go_sem, hcc, zeroNet]
    · exact ⟨HF.out.2, .inr ⟨by unfold addOk; rw [HG.out]; rfl, rfl⟩⟩
  · have HG := Lib.hid hg
    clear hg
    cases hx : inB x 0 ((N.ends.length : Int) - 1)
    · have HX := Lib.hid hx
      clear hx
      go_enter Try.func7, Try.ntmps7
      go_wp2_with fail
      rw [← HZ.out]
      refine (neNode_any _ N v wz (HNR.out.below HBz.out)).mono ?_
      rintro e w1 ⟨rfl, hb1⟩
      rw [HG.out]
      have hr1 := HR.out.below hb1
      have kb := (HK.out.below hb1).cell
      have k2 := hr1.cell
      have f2 := hr1.free
      have HF := Lib.hid (HP.out (.slice none 0 0) (.slice none 0 0) (.slice none 0 0) w1 hr1 (Below.then_ HBz.out hb1))
      clear hr1 hb1
      go_wp2_with (go_at_call 27; refine (l1In_any _ _ _ _).mono ?_; rintro e w2 ⟨rfl, rfl⟩; rw [HX.out])
      have hcc := HF.out.1.cell
      unfold set3 at hcc
      refine bodyPost_ret (v := .tuple #[zeroNet, .bool false]) ?_ rfl ?_
      · simp [results, Try.results7, go_sem, hcc, zeroNet]
      · exact ⟨HF.out.2, .inr ⟨by unfold addOk; rw [HG.out, HX.out]; rfl, rfl⟩⟩
    · have hvn : inB v 0 ((N.ends.length : Int) - 1) = true := by
        have := HG.out
        unfold nodeB at this
        simp only [Bool.and_eq_true] at this
        exact this.2
      obtain ⟨vn, rfl, hvl⟩ := inB_nat hvn
      obtain ⟨xn, rfl, hxl⟩ := inB_nat hx
      have HX := Lib.hid hx
      clear hx hvn
      go_enter Try.func7, Try.ntmps7
      go_wp2_with fail
      rw [← HZ.out]
      refine (neNode_any _ N vn wz (HNR.out.below HBz.out)).mono ?_
      rintro e w1 ⟨rfl, hb1⟩
      rw [HG.out]
      have kb := (HK.out.below hb1).cell
      have HB1 := Lib.hid hb1
      go_wp2_with (go_at_call 27; refine (l1In_any _ _ _ _).mono ?_; rintro e w2 ⟨rfl, rfl⟩; rw [HX.out])
      clear kb
      obtain ⟨J, hJ⟩ : ∃ J, J = joinN N vn xn := ⟨_, rfl⟩
      have HJ := Lib.hid hJ
      refine (neJoin_any _ N vn xn w1 (HNR.out.below (Below.then_ HBz.out HB1.out)) HS.out hvl hxl).mono ?_
      rintro e w2 ⟨v2, rfl, ho2, hb2⟩
      rw [← hJ] at ho2
      clear hJ
      have HO2 := Lib.hid ho2
      have HB2 := Lib.hid (Below.then_ HB1.out hb2)
      obtain ⟨E0, e0, E1, e1, E2, e2, rfl⟩ := ho2.parts
      have hz2 := HB2.out.size
      have hzw := HB1.out.size
      clear ho2 hb2
      go_wp2_with fail
      refine (neIf_any _ J w2 (HO2.out.net (S := fun _ => True) (fun _ _ _ => trivial))).mono ?_
      rintro e w3 ⟨rfl, hb3⟩
      have hr3 := (HR.out.below HB2.out).below hb3
      have HO3 := Lib.hid (HO2.out.below hb3)
      have HB3 := Lib.hid (Below.then_ (Below.then_ HBz.out HB2.out) hb3)
      have k2 := hr3.cell
      have f2 := hr3.free
      cases hj : goodB J
      · have HF := Lib.hid (HP.out (.slice none 0 0) (.slice none 0 0) (.slice none 0 0) w3 hr3 HB3.out)
        have hif : ifV (.agg #[.slice E0 J.ends.length e0, .slice E1 J.ids.length e1, .slice E2 J.inputs.length e2]) J = .tuple #[.agg #[.slice none 0 0, .slice none 0 0, .slice none 0 0], .bool false] := by unfold ifV; rw [hj]; rfl
        have HGJ := Lib.hid hj
        rw [hif]
        clear hr3 hb3 hj hif
        go_wp2_with fail
        have hcc := HF.out.1.cell
        unfold set3 at hcc
        refine bodyPost_ret (v := .tuple #[zeroNet, .bool false]) ?_ rfl ?_
        · simp [results, Try.results7, go_sem, hcc, zeroNet]
        · exact ⟨HF.out.2, .inr ⟨by unfold addOk; rw [HG.out, HX.out, Int.toNat_natCast, Int.toNat_natCast, ← HJ.out, HGJ.out]; rfl, rfl⟩⟩
      · have HF := Lib.hid (HP.out (.slice E0 J.ends.length e0) (.slice E1 J.ids.length e1) (.slice E2 J.inputs.length e2) w3 hr3 HB3.out)
        have hif : ifV (.agg #[.slice E0 J.ends.length e0, .slice E1 J.ids.length e1, .slice E2 J.inputs.length e2]) J = .tuple #[.agg #[.slice E0 J.ends.length e0, .slice E1 J.ids.length e1, .slice E2 J.inputs.length e2], .bool true] := by unfold ifV; rw [hj]; rfl
        have HGJ := Lib.hid hj
        have hkp : ∀ b, w1.heap.size ≤ b → b < w3.heap.size → (set3 w3 (w.heap.size + 1) (.slice E0 J.ends.length e0) (.slice E1 J.ids.length e1) (.slice E2 J.inputs.length e2)).heap[b]? = w3.heap[b]? := fun b hb _ => set3_block _ _ _ _ _ (by omega)
        have HKP := Lib.hid hkp
        rw [hif]
        clear hr3 hb3 hj hif hkp
        go_wp2_with fail
        have hcc := HF.out.1.cell
        unfold set3 at hcc
        refine bodyPost_ret (v := .tuple #[.agg #[.slice E0 J.ends.length e0, .slice E1 J.ids.length e1, .slice E2 J.inputs.length e2], .bool true]) ?_ rfl ?_
        · simp [results, Try.results7, go_sem, hcc]
        · refine ⟨HF.out.2, .inl ⟨by unfold addOk; rw [HG.out, HX.out, Int.toNat_natCast, Int.toNat_natCast, ← HJ.out, HGJ.out]; rfl, _, rfl, ?_⟩⟩
          rw [Int.toNat_natCast, Int.toNat_natCast, ← HJ.out]
          exact (HO3.out.keepB HKP.out).mono (by omega)
end Go.Proofs.Ytkbhbbehidhknaa

namespace Go.Proofs.Ytkbhbbehidhknaa
open Go.RowKit

noncomputable def unionOk (M N : Net) : Bool := goodB M && (goodB N && ((((M.ids.length : Int) == 0) == ((N.ids.length : Int) == 0)) && goodB (unionN M N)))

set_option maxRecDepth 100000 in
set_option maxHeartbeats 4000000 in
theorem specUnionOf_any {S S' : Nat → Prop} (u u' : Value) (M N : Net) (w : World) (h : NetR w S u M) (h' : NetR w S' u' N) (hs : Small M) (hs' : Small N) :
    Calls Try.prog 16 #[u, u'] w (RetNO w (unionN M N) (unionOk M N)) := by
  have HNM := Lib.hid h
  have HNN := Lib.hid h'
  have HSM := Lib.hid hs
  have HSN := Lib.hid hs'
  obtain ⟨ve, vi, vn, rfl, he, hi, hn⟩ := h
  obtain ⟨A, c, rfl, -, -, -⟩ := he
  obtain ⟨A1, c1, rfl, -, -, -⟩ := hi
  obtain ⟨A2, c2, rfl, -, -, -⟩ := hn
  obtain ⟨ve', vi', vn', rfl, he', hi', hn'⟩ := h'
  obtain ⟨D, d, rfl, -, -, -⟩ := he'
  obtain ⟨D1, d1, rfl, -, -, -⟩ := hi'
  obtain ⟨D2, d2, rfl, -, -, -⟩ := hn'
  obtain ⟨wz, hwz⟩ : ∃ wz, wz = ((w.alloc (.cells #[.slice A M.ends.length c, .slice A1 M.ids.length c1, .slice A2 M.inputs.length c2] 27)).alloc (.cells #[.slice D N.ends.length d, .slice D1 N.ids.length d1, .slice D2 N.inputs.length d2] 27)).alloc (.cells #[.slice none 0 0, .slice none 0 0, .slice none 0 0] 27) := ⟨_, rfl⟩
  have hzs : wz.heap.size = w.heap.size + 3 := by rw [hwz]; simp
  have HBz : Hid (Below w.heap.size w wz) := Lib.hid (by rw [hwz]; exact (((Below.refl _ _).alloc (Nat.le_refl _) _).alloc (by simp) _).alloc (by simp; omega) _)
  have HKM : Hid (Blk wz w.heap.size 27 #[.slice A M.ends.length c, .slice A1 M.ids.length c1, .slice A2 M.inputs.length c2]) := Lib.hid (by
    rw [hwz]; exact ((Blk.new w _ _).alloc _).alloc _)
  have HKN : Hid (Blk wz (w.heap.size + 1) 27 #[.slice D N.ends.length d, .slice D1 N.ids.length d1, .slice D2 N.inputs.length d2]) := Lib.hid (by
    rw [hwz]
    have := Blk.new (w.alloc (.cells #[.slice A M.ends.length c, .slice A1 M.ids.length c1, .slice A2 M.inputs.length c2] 27)) 27 #[.slice D N.ends.length d, .slice D1 N.ids.length d1, .slice D2 N.inputs.length d2]
    rw [World.size_alloc] at this
    exact this.alloc _)
  have HR : Hid (Blk wz (w.heap.size + 1 + 1) 27 #[.slice none 0 0, .slice none 0 0, .slice none 0 0]) := Lib.hid (by
    rw [hwz]
    have := Blk.new ((w.alloc (.cells #[.slice A M.ends.length c, .slice A1 M.ids.length c1, .slice A2 M.inputs.length c2] 27)).alloc (.cells #[.slice D N.ends.length d, .slice D1 N.ids.length d1, .slice D2 N.inputs.length d2] 27)) 27 #[.slice none 0 0, .slice none 0 0, .slice none 0 0]
    rw [World.size_alloc, World.size_alloc] at this
    exact this)
  have HZ := Lib.hid hwz
  have hpair : ∀ (x y z : Value) (w' : World), Blk w' (w.heap.size + 1 + 1) 27 #[.slice none 0 0, .slice none 0 0, .slice none 0 0] → Below w.heap.size w w' →
      Blk (set3 w' (w.heap.size + 1 + 1) x y z) (w.heap.size + 1 + 1) 27 #[x, y, z] ∧ Below w.heap.size w (set3 w' (w.heap.size + 1 + 1) x y z) := fun x y z w' hb hw => ⟨set3_blk hb, set3_below hw (by omega) x y z⟩
  have HP := Lib.hid hpair
  clear hwz hpair hs hs'
  cases hg : goodB M
  · have HG := Lib.hid hg
    clear hg
    go_enter Try.func16, Try.ntmps16
    go_wp2_with fail
    rw [← HZ.out]
    refine (neGood_any _ M wz (HNM.out.below HBz.out)).mono ?_
    rintro e w1 ⟨rfl, hb1⟩
    rw [HG.out]
    have hr1 := HR.out.below hb1
    have k2 := hr1.cell
    have f2 := hr1.free
    have HF := Lib.hid (HP.out (.slice none 0 0) (.slice none 0 0) (.slice none 0 0) _ hr1 (Below.then_ HBz.out hb1))
    clear hr1 hb1
    go_wp2_with fail
    have hcc := HF.out.1.cell
    unfold set3 at hcc
    refine bodyPost_ret (v := .tuple #[zeroNet, .bool false]) ?_ rfl ?_
    · simp [results, Try.results16, go_sem, hcc, zeroNet]
    · exact ⟨HF.out.2, .inr ⟨by unfold unionOk; rw [HG.out]; rfl, rfl⟩⟩
  · have HG := Lib.hid hg
    clear hg
    cases hh : goodB N
    · have HH := Lib.hid hh
      clear hh
      go_enter Try.func16, Try.ntmps16
      go_wp2_with fail
      rw [← HZ.out]
      refine (neGood_any _ M wz (HNM.out.below HBz.out)).mono ?_
      rintro e w1 ⟨rfl, hb1⟩
      rw [HG.out]
      have kbn := (HKN.out.below hb1).cell
      have HB1 := Lib.hid hb1
      go_wp2_with fail
      refine (neGood_any _ N w1 (HNN.out.below (Below.then_ HBz.out HB1.out))).mono ?_
      rintro e w2 ⟨rfl, hb2'⟩
      rw [HH.out]
      have hb2 := Below.then_ HB1.out hb2'
      clear kbn hb1 hb2'
      have hr1 := HR.out.below hb2
      have k2 := hr1.cell
      have f2 := hr1.free
      have HF := Lib.hid (HP.out (.slice none 0 0) (.slice none 0 0) (.slice none 0 0) _ hr1 (Below.then_ HBz.out hb2))
      clear hr1 hb2
      go_wp2_with fail
      have hcc := HF.out.1.cell
      unfold set3 at hcc
      refine bodyPost_ret (v := .tuple #[zeroNet, .bool false]) ?_ rfl ?_
      · simp [results, Try.results16, go_sem, hcc, zeroNet]
      · exact ⟨HF.out.2, .inr ⟨by unfold unionOk; rw [HG.out, HH.out]; rfl, rfl⟩⟩
    · have HH := Lib.hid hh
      clear hh
      cases he1 : ((M.ids.length : Int) == 0)
      · cases he2 : ((N.ids.length : Int) == 0)
        · have HE1 := Lib.hid he1
          have HE2 := Lib.hid he2
          go_enter Try.func16, Try.ntmps16
          go_wp2_with fail
          rw [← HZ.out]
          refine (neGood_any _ M wz (HNM.out.below HBz.out)).mono ?_
          rintro e w1 ⟨rfl, hb1⟩
          rw [HG.out]
          have kbn := (HKN.out.below hb1).cell
          have HB1 := Lib.hid hb1
          go_wp2_with fail
          refine (neGood_any _ N w1 (HNN.out.below (Below.then_ HBz.out HB1.out))).mono ?_
          rintro e w2 ⟨rfl, hb2'⟩
          rw [HH.out]
          have hb2 := Below.then_ HB1.out hb2'
          clear kbn hb1 hb2'
          have kbm := (HKM.out.below hb2).cell
          have kbn := (HKN.out.below hb2).cell
          have HB1 := Lib.hid hb2
          clear hb2
          go_wp2_with fail
          obtain ⟨J, hJ⟩ : ∃ J, J = unionN M N := ⟨_, rfl⟩
          have HJ := Lib.hid hJ
          refine (neUnion_any _ _ M N w2 (HNM.out.below (Below.then_ HBz.out HB1.out)) (HNN.out.below (Below.then_ HBz.out HB1.out)) HSM.out HSN.out (endsOk_iff.1 (goodB_iff.1 HH.out).2.2.2.2).2).mono ?_
          rintro e w3 ⟨v3, rfl, ho2, hb3⟩
          rw [← hJ] at ho2
          clear hJ kbm kbn
          have HO2 := Lib.hid ho2
          have HB2 := Lib.hid (Below.then_ HB1.out hb3)
          obtain ⟨E0, e0, E1, e1, E2, e2, rfl⟩ := ho2.parts
          have hz2 := HB2.out.size
          have hzw := HB1.out.size
          clear ho2 hb3
          go_wp2_with fail
          refine (neIf_any _ J w3 (HO2.out.net (S := fun _ => True) (fun _ _ _ => trivial))).mono ?_
          rintro e w4 ⟨rfl, hb4⟩
          have hr3 := (HR.out.below HB2.out).below hb4
          have HO3 := Lib.hid (HO2.out.below hb4)
          have HB3 := Lib.hid (Below.then_ (Below.then_ HBz.out HB2.out) hb4)
          have k2 := hr3.cell
          have f2 := hr3.free
          cases hj : goodB J
          · have HF := Lib.hid (HP.out (.slice none 0 0) (.slice none 0 0) (.slice none 0 0) w4 hr3 HB3.out)
            have hif : ifV (.agg #[.slice E0 J.ends.length e0, .slice E1 J.ids.length e1, .slice E2 J.inputs.length e2]) J = .tuple #[.agg #[.slice none 0 0, .slice none 0 0, .slice none 0 0], .bool false] := by unfold ifV; rw [hj]; rfl
            have HGJ := Lib.hid hj
            rw [hif]
            clear hr3 hb4 hj hif
            go_wp2_with fail
            have hcc := HF.out.1.cell
            unfold set3 at hcc
            refine bodyPost_ret (v := .tuple #[zeroNet, .bool false]) ?_ rfl ?_
            · simp [results, Try.results16, go_sem, hcc, zeroNet]
            · exact ⟨HF.out.2, .inr ⟨by unfold unionOk; rw [HG.out, HH.out, HE1.out, HE2.out, ← HJ.out, HGJ.out]; rfl, rfl⟩⟩
          · have HF := Lib.hid (HP.out (.slice E0 J.ends.length e0) (.slice E1 J.ids.length e1) (.slice E2 J.inputs.length e2) w4 hr3 HB3.out)
            have hif : ifV (.agg #[.slice E0 J.ends.length e0, .slice E1 J.ids.length e1, .slice E2 J.inputs.length e2]) J = .tuple #[.agg #[.slice E0 J.ends.length e0, .slice E1 J.ids.length e1, .slice E2 J.inputs.length e2], .bool true] := by unfold ifV; rw [hj]; rfl
            have HGJ := Lib.hid hj
            have hkp : ∀ b, w2.heap.size ≤ b → b < w4.heap.size → (set3 w4 (w.heap.size + 1 + 1) (.slice E0 J.ends.length e0) (.slice E1 J.ids.length e1) (.slice E2 J.inputs.length e2)).heap[b]? = w4.heap[b]? := fun b hb _ => set3_block _ _ _ _ _ (by omega)
            have HKP := Lib.hid hkp
            rw [hif]
            clear hr3 hb4 hj hif hkp
            go_wp2_with fail
            have hcc := HF.out.1.cell
            unfold set3 at hcc
            refine bodyPost_ret (v := .tuple #[.agg #[.slice E0 J.ends.length e0, .slice E1 J.ids.length e1, .slice E2 J.inputs.length e2], .bool true]) ?_ rfl ?_
            · simp [results, Try.results16, go_sem, hcc]
            · refine ⟨HF.out.2, .inl ⟨by unfold unionOk; rw [HG.out, HH.out, HE1.out, HE2.out, ← HJ.out, HGJ.out]; rfl, _, rfl, ?_⟩⟩
              rw [← HJ.out]
              exact (HO3.out.keepB HKP.out).mono (by omega)
        · have HE1 := Lib.hid he1
          have HE2 := Lib.hid he2
          go_enter Try.func16, Try.ntmps16
          go_wp2_with fail
          rw [← HZ.out]
          refine (neGood_any _ M wz (HNM.out.below HBz.out)).mono ?_
          rintro e w1 ⟨rfl, hb1⟩
          rw [HG.out]
          have kbn := (HKN.out.below hb1).cell
          have HB1 := Lib.hid hb1
          go_wp2_with fail
          refine (neGood_any _ N w1 (HNN.out.below (Below.then_ HBz.out HB1.out))).mono ?_
          rintro e w2 ⟨rfl, hb2'⟩
          rw [HH.out]
          have hb2 := Below.then_ HB1.out hb2'
          clear kbn hb1 hb2'
          have kbm := (HKM.out.below hb2).cell
          have kbn := (HKN.out.below hb2).cell
          have hr1 := HR.out.below hb2
          have k2 := hr1.cell
          have f2 := hr1.free
          have HF := Lib.hid (HP.out (.slice none 0 0) (.slice none 0 0) (.slice none 0 0) _ hr1 (Below.then_ HBz.out hb2))
          clear hr1 hb2
          go_wp2_with fail
          have hcc := HF.out.1.cell
          unfold set3 at hcc
          refine bodyPost_ret (v := .tuple #[zeroNet, .bool false]) ?_ rfl ?_
          · simp [results, Try.results16, go_sem, hcc, zeroNet]
          · exact ⟨HF.out.2, .inr ⟨by unfold unionOk; rw [HG.out, HH.out, HE1.out, HE2.out]; rfl, rfl⟩⟩
      · cases he2 : ((N.ids.length : Int) == 0)
        · have HE1 := Lib.hid he1
          have HE2 := Lib.hid he2
          go_enter Try.func16, Try.ntmps16
          go_wp2_with fail
          rw [← HZ.out]
          refine (neGood_any _ M wz (HNM.out.below HBz.out)).mono ?_
          rintro e w1 ⟨rfl, hb1⟩
          rw [HG.out]
          have kbn := (HKN.out.below hb1).cell
          have HB1 := Lib.hid hb1
          go_wp2_with fail
          refine (neGood_any _ N w1 (HNN.out.below (Below.then_ HBz.out HB1.out))).mono ?_
          rintro e w2 ⟨rfl, hb2'⟩
          rw [HH.out]
          have hb2 := Below.then_ HB1.out hb2'
          clear kbn hb1 hb2'
          have kbm := (HKM.out.below hb2).cell
          have kbn := (HKN.out.below hb2).cell
          have hr1 := HR.out.below hb2
          have k2 := hr1.cell
          have f2 := hr1.free
          have HF := Lib.hid (HP.out (.slice none 0 0) (.slice none 0 0) (.slice none 0 0) _ hr1 (Below.then_ HBz.out hb2))
          clear hr1 hb2
          go_wp2_with fail
          have hcc := HF.out.1.cell
          unfold set3 at hcc
          refine bodyPost_ret (v := .tuple #[zeroNet, .bool false]) ?_ rfl ?_
          · simp [results, Try.results16, go_sem, hcc, zeroNet]
          · exact ⟨HF.out.2, .inr ⟨by unfold unionOk; rw [HG.out, HH.out, HE1.out, HE2.out]; rfl, rfl⟩⟩
        · have HE1 := Lib.hid he1
          have HE2 := Lib.hid he2
          go_enter Try.func16, Try.ntmps16
          go_wp2_with fail
          rw [← HZ.out]
          refine (neGood_any _ M wz (HNM.out.below HBz.out)).mono ?_
          rintro e w1 ⟨rfl, hb1⟩
          rw [HG.out]
          have kbn := (HKN.out.below hb1).cell
          have HB1 := Lib.hid hb1
          go_wp2_with fail
          refine (neGood_any _ N w1 (HNN.out.below (Below.then_ HBz.out HB1.out))).mono ?_
          rintro e w2 ⟨rfl, hb2'⟩
          rw [HH.out]
          have hb2 := Below.then_ HB1.out hb2'
          clear kbn hb1 hb2'
          have kbm := (HKM.out.below hb2).cell
          have kbn := (HKN.out.below hb2).cell
          have HB1 := Lib.hid hb2
          clear hb2
          go_wp2_with fail
          obtain ⟨J, hJ⟩ : ∃ J, J = unionN M N := ⟨_, rfl⟩
          have HJ := Lib.hid hJ
          refine (neUnion_any _ _ M N w2 (HNM.out.below (Below.then_ HBz.out HB1.out)) (HNN.out.below (Below.then_ HBz.out HB1.out)) HSM.out HSN.out (endsOk_iff.1 (goodB_iff.1 HH.out).2.2.2.2).2).mono ?_
          rintro e w3 ⟨v3, rfl, ho2, hb3⟩
          rw [← hJ] at ho2
          clear hJ kbm kbn
          have HO2 := Lib.hid ho2
          have HB2 := Lib.hid (Below.then_ HB1.out hb3)
          obtain ⟨E0, e0, E1, e1, E2, e2, rfl⟩ := ho2.parts
          have hz2 := HB2.out.size
          have hzw := HB1.out.size
          clear ho2 hb3
          go_wp2_with fail
          refine (neIf_any _ J w3 (HO2.out.net (S := fun _ => True) (fun _ _ _ => trivial))).mono ?_
          rintro e w4 ⟨rfl, hb4⟩
          have hr3 := (HR.out.below HB2.out).below hb4
          have HO3 := Lib.hid (HO2.out.below hb4)
          have HB3 := Lib.hid (Below.then_ (Below.then_ HBz.out HB2.out) hb4)
          have k2 := hr3.cell
          have f2 := hr3.free
          cases hj : goodB J
          · have HF := Lib.hid (HP.out (.slice none 0 0) (.slice none 0 0) (.slice none 0 0) w4 hr3 HB3.out)
            have hif : ifV (.agg #[.slice E0 J.ends.length e0, .slice E1 J.ids.length e1, .slice E2 J.inputs.length e2]) J = .tuple #[.agg #[.slice none 0 0, .slice none 0 0, .slice none 0 0], .bool false] := by unfold ifV; rw [hj]; rfl
            have HGJ := Lib.hid hj
            rw [hif]
            clear hr3 hb4 hj hif
            go_wp2_with fail
            have hcc := HF.out.1.cell
            unfold set3 at hcc
            refine bodyPost_ret (v := .tuple #[zeroNet, .bool false]) ?_ rfl ?_
            · simp [results, Try.results16, go_sem, hcc, zeroNet]
            · exact ⟨HF.out.2, .inr ⟨by unfold unionOk; rw [HG.out, HH.out, HE1.out, HE2.out, ← HJ.out, HGJ.out]; rfl, rfl⟩⟩
          · have HF := Lib.hid (HP.out (.slice E0 J.ends.length e0) (.slice E1 J.ids.length e1) (.slice E2 J.inputs.length e2) w4 hr3 HB3.out)
            have hif : ifV (.agg #[.slice E0 J.ends.length e0, .slice E1 J.ids.length e1, .slice E2 J.inputs.length e2]) J = .tuple #[.agg #[.slice E0 J.ends.length e0, .slice E1 J.ids.length e1, .slice E2 J.inputs.length e2], .bool true] := by unfold ifV; rw [hj]; rfl
            have HGJ := Lib.hid hj
            have hkp : ∀ b, w2.heap.size ≤ b → b < w4.heap.size → (set3 w4 (w.heap.size + 1 + 1) (.slice E0 J.ends.length e0) (.slice E1 J.ids.length e1) (.slice E2 J.inputs.length e2)).heap[b]? = w4.heap[b]? := fun b hb _ => set3_block _ _ _ _ _ (by omega)
            have HKP := Lib.hid hkp
            rw [hif]
            clear hr3 hb4 hj hif hkp
            go_wp2_with fail
            have hcc := HF.out.1.cell
            unfold set3 at hcc
            refine bodyPost_ret (v := .tuple #[.agg #[.slice E0 J.ends.length e0, .slice E1 J.ids.length e1, .slice E2 J.inputs.length e2], .bool true]) ?_ rfl ?_
            · simp [results, Try.results16, go_sem, hcc]
            · refine ⟨HF.out.2, .inl ⟨by unfold unionOk; rw [HG.out, HH.out, HE1.out, HE2.out, ← HJ.out, HGJ.out]; rfl, _, rfl, ?_⟩⟩
              rw [← HJ.out]
              exact (HO3.out.keepB HKP.out).mono (by omega)
end Go.Proofs.Ytkbhbbehidhknaa
