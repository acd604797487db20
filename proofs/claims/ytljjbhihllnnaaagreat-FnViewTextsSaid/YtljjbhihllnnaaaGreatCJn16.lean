/- Parts of the proof, joined: Nw1, Nw2, Nw5, Nw6, Nw7. -/
import Derived.Test.YtljjbhihllnnaaaGreatCJn3
import Derived.Test.YtljjbhihllnnaaaGreatCJn1
import Derived.Deep.RegionHeld3
import Derived.Deep.DeepCutAuto
import Derived.Deep.RegionLaw
namespace Go.Proofs.YtljjbhihllnnaaaGreat
open Go.RowKit

theorem OwnEs.push {w0 w1 w2 : World} {B : Nat} {v v' u : Value} {ess : List (List (Int × Int))} {es : List (Int × Int)} {us : Nat → Value} (hv : w0.ownsRow B 36 1 v ess.length ((List.range ess.length).map us)) (hi : ∀ i, i < ess.length → OwnE w0 B (us i) (gl ess i))
    (hd : ∀ i j, i < ess.length → j < ess.length → i ≠ j → ∀ g, (us i).ownBlock = some g → (us j).ownBlock ≠ some g) (hb : Below w0.heap.size w0 w1) (hu : OwnE w1 w0.heap.size u es) (hB : B ≤ w0.heap.size)
    (hr : w2.ownsRow B 36 1 v' (ess.length + 1) ((List.range ess.length).map us ++ [u])) (hg : w1.grownBy w2 v.ownBlock) : OwnEs w2 B v' (ess ++ [es]) := by
  have hvt : ∀ g, v.ownBlock = some g → ∃ cs, w1.heap[g]? = some (.cells cs 36 (0, 0)) := fun g hg' => by
    rcases hv.2 with ⟨rfl, _⟩ | ⟨g', cap, cur, rfl, _, hh, _⟩
    · cases hg'
    · cases hg'; exact ⟨cur, (hb.block _ (Array.getElem?_eq_some_iff.1 hh).1).trans hh⟩
  have key : ∀ {x : Value} {fs : List (Int × Int)} {C : Nat}, OwnE w1 C x fs → OwnE w2 C x fs := fun {x fs C} hx => hx.keepB fun b hbx => hg.block b (hx.lt b hbx).2 (fun e => by
    obtain ⟨cs, h1⟩ := hx.type b hbx
    obtain ⟨cs', h2⟩ := hvt b e.symm
    rw [h1] at h2
    simp at h2)
  have gl1 : ∀ i, i < ess.length → gl (ess ++ [es]) i = gl ess i := fun i h => by simp [gl, List.getElem?_append_left h]
  have gl2 : gl (ess ++ [es]) ess.length = es := by simp [gl]
  have e0 : (List.range (ess.length + 1)).map (fun i => if i < ess.length then us i else u) = (List.range ess.length).map us ++ [u] := by
    rw [List.range_succ, List.map_append]
    congr 1
    · exact List.map_congr_left fun i h => by simp [List.mem_range.1 h]
    · simp
  have ln : (ess ++ [es]).length = ess.length + 1 := by simp
  refine ⟨fun i => if i < ess.length then us i else u, ?_, fun i h => ?_, fun i j h1 h2 hne g hgi => ?_⟩
  · rw [ln, e0]; exact hr
  · rw [ln] at h
    by_cases hl : i < ess.length
    · simp only [hl, if_true]
      rw [gl1 i hl]
      exact key ((hi i hl).below hb)
    · obtain rfl : i = ess.length := by omega
      simp only [Nat.lt_irrefl, if_false]
      rw [gl2]
      exact (key hu).mono hB
  · rw [ln] at h1 h2
    by_cases hl : i < ess.length
    · simp only [hl, if_true] at hgi
      by_cases hl2 : j < ess.length
      · simp only [hl2, if_true]
        exact hd i j hl hl2 hne g hgi
      · simp only [hl2, if_false]
        intro e
        have a1 := ((hi i hl).lt g hgi).2
        have a2 := (hu.lt g e).1
        omega
    · simp only [hl, if_false] at hgi
      have hl2 : j < ess.length := by omega
      simp only [hl2, if_true]
      intro e
      have a1 := ((hi j hl2).lt g e).2
      have a2 := (hu.lt g hgi).1
      omega

theorem cells2 {W : World} {g : Nat} {t : TypeId} {a b c : Value} (h : Blk W g t #[a, b, c]) : W.cell? ⟨g, 1, none⟩ = some b ∧ W.cell? ⟨g, 2, none⟩ = some c :=
  ⟨by rw [h.cell]; rfl, by rw [h.cell]; rfl⟩

set_option maxRecDepth 100000 in
set_option maxHeartbeats 2000000 in
theorem neOwn_any {S : Nat → Prop} (v : Value) (N : Net) (w : World) (h : NetR w S v N) (hs : Small N) : Calls Tryz.prog 165 #[v] w (RetNt w N) := by
  obtain ⟨ve, vi, vn, rfl, he, hi, hn⟩ := h
  obtain ⟨hs1, hs2, hs3, hs4⟩ := hs
  have HI := Lib.hid hi
  have HN := Lib.hid hn
  have HE := Lib.hid he
  obtain ⟨A1, c1, rfl, -, -, -⟩ := hi
  obtain ⟨A2, c2, rfl, -, -, -⟩ := hn
  obtain ⟨A, c, rfl, hnc, hm, hx⟩ := he
  have HX := Lib.hid hx
  have HS2 := Lib.hid hs2
  unfold maxLen at hm
  clear hx hs2
  go_enter Tryz.func165, Tryz.ntmps165
  have hb2 : ∀ o1 o2, Below w.heap.size w ((w.alloc o1).alloc o2) := fun o1 o2 => ((Below.refl _ _).alloc (Nat.le_refl _) _).alloc (by simp) _
  have HKa := Lib.hid ((Blk.new w 27 #[.slice A N.ends.length c, .slice A1 N.ids.length c1, .slice A2 N.inputs.length c2]).alloc (.cells #[.slice none 0 0, .slice none 0 0, .slice none 0 0] 27))
  have HRa : Hid (Blk ((w.alloc (.cells #[.slice A N.ends.length c, .slice A1 N.ids.length c1, .slice A2 N.inputs.length c2] 27)).alloc (.cells #[.slice none 0 0, .slice none 0 0, .slice none 0 0] 27)) (w.heap.size + 1) 27 #[.slice none 0 0, .slice none 0 0, .slice none 0 0]) := by
    have := Blk.new (w.alloc (.cells #[.slice A N.ends.length c, .slice A1 N.ids.length c1, .slice A2 N.inputs.length c2] 27)) 27 #[.slice none 0 0, .slice none 0 0, .slice none 0 0]
    exact Lib.hid (by simpa using this)
  have HBa := Lib.hid (hb2 (.cells #[.slice A N.ends.length c, .slice A1 N.ids.length c1, .slice A2 N.inputs.length c2] 27) (.cells #[.slice none 0 0, .slice none 0 0, .slice none 0 0] 27))
  clear hb2
  go_upto_region 1 with (fail)
  generalize (w.alloc (.cells #[.slice A N.ends.length c, .slice A1 N.ids.length c1, .slice A2 N.inputs.length c2] 27)).alloc (.cells #[.slice none 0 0, .slice none 0 0, .slice none 0 0] 27) = wa at *
  have hlt0 : w.heap.size < wa.heap.size := HKa.out.lt
  go_cut [3] (fun v3 W => ∃ (b3 : Nat) (Ab Ac : Option Addr) (cb cc : Nat), v3 = .pointer (some ⟨b3, 0, none⟩) ∧ Blk W b3 27 #[.slice none 0 0, .slice Ab N.ids.length cb, .slice Ac N.inputs.length cc] ∧ wa.heap.size ≤ b3 ∧
    OwnI W wa.heap.size (.slice Ab N.ids.length cb) N.ids ∧ OwnI W wa.heap.size (.slice Ac N.inputs.length cc) N.inputs ∧ (∀ g, (Value.slice Ab N.ids.length cb).ownBlock = some g → (Value.slice Ac N.inputs.length cc).ownBlock ≠ some g) ∧ Below wa.heap.size wa W)
  case first =>
    have hne0 : w.heap.size ≠ wa.heap.size := by omega
    go_region_held3 (fun W => W.cell? ⟨w.heap.size, 1, none⟩ = some (.slice A1 N.ids.length c1) ∧ W.cell? ⟨w.heap.size, 2, none⟩ = some (.slice A2 N.inputs.length c2))
      (first | exact cells2 HKa.out | exact cells2 (HKa.out.alloc _) | exact cells2 (HKa.out.below hbb') | exact cells2 ((HKa.out.below hbb').alloc _) | exact cells2 (HKa.out.below hbc') | exact cells2 ((HKa.out.below hbc').alloc _) | exact cells2 ((((HKa.out.below hbc').far hne1 _).far hne1 _).far hne1 _) | exact cells2 ((((HKa.out.below hbc').far hne0 _).far hne0 _).far hne0 _))
      (first
        | (go_at_call_of 128 (Value.slice A1 N.ids.length c1); refine (l1Own_any _ _ _ (HI.out.below (HBa.out.drew)) (by omega)).mono ?_; rintro e wb ⟨vb, rfl, hob, hbb⟩; obtain ⟨Ab, cb, rfl⟩ := hob.shape; have hbb' := Below.then_ ((Below.refl wa.heap.size wa).drew) hbb)
        | (go_at_call_of 128 (Value.slice A1 N.ids.length c1); refine (l1Own_any _ _ _ (HI.out.below (HBa.out.alloc HBa.out.size (.cells #[.slice none 0 0, .slice none 0 0, .slice none 0 0] 27)).drew) (by omega)).mono ?_; rintro e wb ⟨vb, rfl, hob, hbb⟩; obtain ⟨Ab, cb, rfl⟩ := hob.shape; have hbb' := Below.then_ ((Below.refl wa.heap.size wa).alloc (Nat.le_refl _) (.cells #[.slice none 0 0, .slice none 0 0, .slice none 0 0] 27)).drew hbb; have hk2 : Blk wb wa.heap.size 27 #[.slice none 0 0, .slice none 0 0, .slice none 0 0] := Blk.below (w := (wa.alloc (.cells #[.slice none 0 0, .slice none 0 0, .slice none 0 0] 27)).drew) (Blk.new wa 27 #[.slice none 0 0, .slice none 0 0, .slice none 0 0]) hbb)
        | (go_at_call_of 128 (Value.slice A2 N.inputs.length c2); have hk2' := hk2; refine (l1Own_any _ _ _ (HN.out.below (Below.then_ HBa.out hbb')) (by omega)).mono ?_; rintro e wc ⟨vc, rfl, hoc, hbc⟩; obtain ⟨Ac, cc, rfl⟩ := hoc.shape; have hbc' := Below.then_ hbb' hbc; have hk3 := Blk.below hk2 hbc; have hk3c := hk3.cell; have hk3f := hk3.free)
        | (go_at_call_of 128 (Value.slice A2 N.inputs.length c2); refine (l1Own_any _ _ _ (HN.out.below (Below.then_ HBa.out hbb')) (by omega)).mono ?_; rintro e wc ⟨vc, rfl, hoc, hbc⟩; obtain ⟨Ac, cc, rfl⟩ := hoc.shape; have hbc' := Below.then_ hbb' hbc)
        | (go_at_call_of 128 (Value.slice A2 N.inputs.length c2); refine (l1Own_any _ _ _ (HN.out.below (Below.then_ HBa.out (hbb'.alloc hbb'.size _))) (by omega)).mono ?_; rintro e wc ⟨vc, rfl, hoc, hbc⟩; obtain ⟨Ac, cc, rfl⟩ := hoc.shape; have hbc' := Below.then_ (hbb'.alloc hbb'.size _) hbc; have hne1 : w.heap.size ≠ wb.heap.size := (by have := hbb'.size; omega); have hk3 := Blk.below (Blk.new wb 27 #[.slice none 0 0, .slice none 0 0, .slice none 0 0]) hbc; have hk3c := hk3.cell; have hk3f := hk3.free))
    · go_wp2_with fail
      go_meet
      refine ⟨wc.heap.size, Ab, Ac, cb, cc, rfl, Blk.new _ _ _, hbc'.size, (hob.below hbc).alloc _, (hoc.mono hbb'.size).alloc _, fun g h1 h2 => ?_, hbc'.alloc hbc'.size _⟩
      have a1 := (hob.blk g h1).2
      have a2 := (hoc.blk g h2).1
      omega
    · go_wp2_with fail
      go_meet
      simp only [World.size_alloc] at hoc
      refine ⟨wb.heap.size, Ab, Ac, cb, cc, rfl, set3_blk hk3, hbb'.size, OwnI.keepO (w := wc) ?_ fun b hb => set3_block _ _ _ _ _ ?_, OwnI.keepO (w := wc) (hoc.mono (by have := hbb'.size; omega)) fun b hb => set3_block _ _ _ _ _ ?_, fun g h1 h2 => ?_, set3_below hbc' hbb'.size _ _ _⟩
      · exact (hob.below ((Below.refl _ _).alloc (Nat.le_refl _) _)).below hbc
      · have a1 := (hob.blk b hb).2; omega
      · have a2 := (hoc.blk b hb).1; omega
      · have a1 := (hob.blk g h1).2
        have a2 := (hoc.blk g h2).1
        omega
    · go_wp2_with fail
      go_meet
      have hob' : OwnI wb (wa.heap.size + 1) (.slice Ab N.ids.length cb) N.ids := by simpa using hob
      have hz : wa.heap.size + 1 ≤ wb.heap.size := by have := hbb.size; simpa using this
      refine ⟨wa.heap.size, Ab, Ac, cb, cc, rfl, set3_blk hk3, Nat.le_refl _, OwnI.keepO (w := wc) ((hob'.mono (by omega)).below hbc) fun b hb => set3_block _ _ _ _ _ ?_, OwnI.keepO (w := wc) (hoc.mono hbb'.size) fun b hb => set3_block _ _ _ _ _ ?_, fun g h1 h2 => ?_, set3_below hbc' (Nat.le_refl _) _ _ _⟩
      · have a1 := (hob'.blk b hb).1; omega
      · have a2 := (hoc.blk b hb).1; omega
      · have a1 := (hob'.blk g h1).2
        have a2 := (hoc.blk g h2).1
        omega
  case rest =>
    obtain ⟨b3, Ab, Ac, cb, cc, rfl, hk3, hb3, ho1, ho2, hdd, hbW⟩ := hcut
    have HO1 := Lib.hid ho1
    have HO2 := Lib.hid ho2
    have HK3 := Lib.hid hk3
    have HBW := Lib.hid hbW
    have HDD := Lib.hid hdd
    have kb := (HKa.out.below hbW).cell
    have hb3W : b3 < wc.heap.size := hk3.lt
    clear ho1 ho2 hk3 hdd hbW
    go_wp2_with fail
    clear kb
    go_loopw [16] (fun vi wr => ∃ (k : Nat) (A0 : Option Addr) (c0 : Nat), k ≤ N.ends.length ∧ vi = .int .i64 k ∧ Blk wr b3 27 #[.slice A0 k c0, .slice Ab N.ids.length cb, .slice Ac N.inputs.length cc] ∧
        OwnEs wr wa.heap.size (.slice A0 k c0) (N.ends.take k) ∧ OwnI wr wa.heap.size (.slice Ab N.ids.length cb) N.ids ∧ OwnI wr wa.heap.size (.slice Ac N.inputs.length cc) N.inputs ∧ Below wa.heap.size wa wr)
      (fun vi _ => N.ends.length - (intOf vi).toNat)
    case atStart => exact ⟨0, none, 0, Nat.zero_le _, rfl, HK3.out, by simpa using OwnEs.nil, HO1.out, HO2.out, HBW.out⟩
    case round =>
      clear HO1 HO2 HK3
      obtain ⟨k, A0, c0, hk, rfl, hk3, hes, ho1, ho2, hbr⟩ := hrel
      have HK3 := Lib.hid hk3
      have HO1 := Lib.hid ho1
      have HO2 := Lib.hid ho2
      have HBR := Lib.hid hbr
      have hbz : wa.heap.size ≤ wr.heap.size := hbr.size
      have hb3r : b3 < wr.heap.size := hk3.lt
      obtain ⟨us, hrow, hin, hdis⟩ := hes
      have hlk : (N.ends.take k).length = k := by simp; omega
      rw [hlk] at hrow
      have HROW := Lib.hid hrow
      have HIN := Lib.hid hin
      have HDS := Lib.hid hdis
      clear hk3 ho1 ho2 hbr hrow hin hdis
      by_cases hlt : k < N.ends.length
      · obtain ⟨b, off, rfl, -, hc⟩ := HX.out (by omega)
        obtain ⟨u, hu, hur⟩ := hc k hlt
        have hu' : wr.cell? ⟨b, off + k, none⟩ = some u := ((Below.then_ HBa.out HBR.out).cell (p := ⟨b, off + k, none⟩) (lt_of_cell hu)).trans hu
        have HUR := Lib.hid (hur.below (Below.then_ HBa.out HBR.out))
        obtain ⟨A5, c5, rfl, -, -, -⟩ := hur
        have hl5 := HS2.out k hlt
        clear hu hc
        go_wp2_with fail
        have kS : wr.cell? ⟨b3, 0, none⟩ = some (.slice A0 k c0) := by rw [HK3.out.cell]; rfl
        have hneb : (Value.slice A0 k c0).ownBlock ≠ some b3 := fun e => by
          rcases HROW.out.2 with ⟨h1, _⟩ | ⟨g', cap, cur, h1, _, hh, _⟩
          · cases h1; cases e
          · cases h1; cases e
            have := HK3.out
            unfold Blk at this
            rw [hh] at this
            simp at this
        have hnew : (Value.slice A0 k c0).ownBlock ≠ some wr.heap.size := fun e => by
          have := (World.ownsRow.lt HROW.out _ e).2; omega
        go_region_law (first
            | (refine step_append_ends _ rfl (.tmp 22) (.tmp 23) rfl wr.heap.size (.slice (some ⟨wr.heap.size, 0, none⟩) 0 0) [] (by simp [go_sem]) (OwnE.made (w := wr) #[] rfl (Nat.le_refl _)) (.slice A5 (gl N.ends k).length c5) (gl N.ends k) (by simp [go_sem]) (HUR.out.below ((Below.refl _ _).alloc (Nat.le_refl _) _).drew) (by simp; omega) (by simp) ?_; intro A7 c7 w7 ho7 hg7 hl7; go_must (have hk7 : Blk w7 b3 27 #[.slice A0 k c0, .slice Ab N.ids.length cb, .slice Ac N.inputs.length cc] := (hg7.block b3 (by simp; omega) (by simp [Value.ownBlock]; omega)).trans ((Below.heap_alloc wr _ _ hb3r).trans HK3.out); have kS7 : w7.cell? ⟨b3, 0, none⟩ = some (.slice A0 k c0) := (by rw [hk7.cell]; rfl); have hz7 : wr.heap.size + 1 ≤ w7.heap.size := (by have := hg7.size; simpa using this); have hr7 : w7.ownsRow wa.heap.size 36 1 (.slice A0 k c0) k ((List.range k).map us) := World.ownsRow.kept (World.ownsRow.drew (World.ownsRow.alloc HROW.out (.cells #[] 38))) hg7 (.inr hnew); have kS9 : (w7.alloc (.cells #[.slice A7 (gl N.ends k).length c7] 36)).cell? ⟨b3, 0, none⟩ = some (.slice A0 k c0) := (World.cell?_of_block (w := w7) (Below.heap_alloc w7 _ _ hk7.lt)).trans kS7))
            | (refine step_append_slice _ rfl (.tmp 21) (.tmp 25) rfl wa.heap.size (.slice A0 k c0) k ((List.range k).map us) (by simp [go_sem]) (World.ownsRow.alloc hr7 _) w7.heap.size A7 (gl N.ends k).length c7 (by simp [go_sem]) (Blk.new w7 _ _) (by omega) (by simp; omega) ?_; intro A8 c8 w8 hr8 hg8 hl8; have hk8 : Blk w8 b3 27 #[.slice A0 k c0, .slice Ab N.ids.length cb, .slice Ac N.inputs.length cc] := (hg8.block b3 (by simp; omega) (Ne.symm hneb)).trans (hk7.alloc _); have hk8c := hk8.cell; have hk8f := hk8.free))
        all_goals
          have hX1 : Below wr.heap.size wr (wr.alloc (.cells #[] 38)).drew := ((Below.refl _ _).alloc (Nat.le_refl _) _).drew
          have hB7 : Below wr.heap.size wr w7 := hX1.grown hg7 hX1.size (fun j hj => by cases hj; exact Nat.le_refl _)
          have hB7a : Below wr.heap.size wr (w7.alloc (.cells #[.slice A7 (gl N.ends k).length c7] 36)) := hB7.alloc (by omega) _
          have hu7 : OwnE (w7.alloc (.cells #[.slice A7 (gl N.ends k).length c7] 36)) wr.heap.size (.slice A7 (gl N.ends k).length c7) (gl N.ends k) := by
            have h7 : OwnE w7 wr.heap.size (.slice A7 (gl N.ends k).length c7) (gl N.ends k) := by simpa using ho7
            exact h7.below ((Below.refl _ _).alloc (Nat.le_refl _) _)
          have hes8 : OwnEs w8 wa.heap.size (.slice A8 (k + 1) c8) (N.ends.take (k + 1)) := by
            have := OwnEs.push (w0 := wr) (B := wa.heap.size) (v := .slice A0 k c0) (ess := N.ends.take k) (es := gl N.ends k) (us := us) (by rw [hlk]; exact HROW.out) HIN.out HDS.out hB7a hu7 hbz (by rw [hlk]; exact hr8) hg8
            rw [gl_lt hlt] at this
            rwa [List.take_succ_eq_append_getElem hlt]
          have hkb8 : KeptBut 36 wr w8 := (KeptBut.of_below hB7a).trans (KeptBut.of_grown hg8 (rowType (World.ownsRow.alloc hr7 _)))
          have hkb9 : KeptBut 27 w8 (w8.setCell ⟨b3, 0, none⟩ (.slice A8 (k + 1) c8)) := KeptBut.of_set (p := ⟨b3, 0, none⟩) (show w8.heap[b3]? = _ from hk8) _
          have HR : Hid (Blk (w8.setCell ⟨b3, 0, none⟩ (.slice A8 (k + 1) c8)) b3 27 #[.slice A8 (k + 1) c8, .slice Ab N.ids.length cb, .slice Ac N.inputs.length cc] ∧ OwnEs (w8.setCell ⟨b3, 0, none⟩ (.slice A8 (k + 1) c8)) wa.heap.size (.slice A8 (k + 1) c8) (N.ends.take (k + 1)) ∧
              OwnI (w8.setCell ⟨b3, 0, none⟩ (.slice A8 (k + 1) c8)) wa.heap.size (.slice Ab N.ids.length cb) N.ids ∧ OwnI (w8.setCell ⟨b3, 0, none⟩ (.slice A8 (k + 1) c8)) wa.heap.size (.slice Ac N.inputs.length cc) N.inputs ∧ Below wa.heap.size wa (w8.setCell ⟨b3, 0, none⟩ (.slice A8 (k + 1) c8))) := by
            refine ⟨hk8.put 0 _, hes8.but hkb9 (by decide) (by decide), (HO1.out.but hkb8 (by decide)).but hkb9 (by decide), (HO2.out.but hkb8 (by decide)).but hkb9 (by decide), ?_⟩
            exact ((HBR.out.trans (hB7a.mono hbz)).grown hg8 (by simp; omega) (fun j hj => (World.ownsRow.lt HROW.out j hj).1)).setCell hb3 _
          clear hX1 hB7 hB7a hu7 hes8 hkb8 hkb9 hk8 hk8c hk8f hg8 hr8 hl8 hg7 ho7 hl7 hk7 kS7 kS9 hz7 hr7
          go_wp2_with fail
          go_roundw
          case rel => exact ⟨k + 1, A8, c8, by omega, by go_num, HR.out⟩
          case measure => simp [intOf]; omega
      · obtain rfl : k = N.ends.length := by omega
        have hes : OwnEs wr wa.heap.size (.slice A0 N.ends.length c0) N.ends := by
          have h1 : N.ends.take N.ends.length = N.ends := List.take_length
          rw [h1] at HIN HDS
          exact ⟨us, HROW.out, HIN.out, HDS.out⟩
        have HES := Lib.hid hes
        have hra := HRa.out.below HBR.out
        have hlt1 : w.heap.size + 1 < wa.heap.size := HRa.out.lt
        have k3 := HK3.out.cell
        have k2 := hra.cell
        have f2 := hra.free
        have HRA := Lib.hid (set3_blk (x := .slice A0 N.ends.length c0) (y := .slice Ab N.ids.length cb) (z := .slice Ac N.inputs.length cc) hra)
        have hkp : ∀ b, wa.heap.size ≤ b → b < wr.heap.size → (set3 wr (w.heap.size + 1) (.slice A0 N.ends.length c0) (.slice Ab N.ids.length cb) (.slice Ac N.inputs.length cc)).heap[b]? = wr.heap[b]? := fun b hb _ => set3_block _ _ _ _ _ (by omega)
        have HKP := Lib.hid hkp
        have HBE := Lib.hid (set3_below (p := w.heap.size + 1) (Below.then_ HBa.out HBR.out) (by omega) (.slice A0 N.ends.length c0) (.slice Ab N.ids.length cb) (.slice Ac N.inputs.length cc))
        clear hes hra hkp hlk
        go_wp2_with fail
        have hcc := HRA.out.cell
        unfold set3 at hcc
        refine bodyPost_ret (v := .agg #[.slice A0 N.ends.length c0, .slice Ab N.ids.length cb, .slice Ac N.inputs.length cc]) ?_ rfl ?_
        · simp [results, Tryz.results165, go_sem, hcc]
        · exact ⟨_, rfl, ⟨_, _, _, rfl, (HES.out.keepB HKP.out).mono (by omega), (HO1.out.keepB HKP.out).mono (by omega), (HO2.out.keepB HKP.out).mono (by omega), HDD.out⟩, HBE.out⟩
end Go.Proofs.YtljjbhihllnnaaaGreat

namespace Go.Proofs.YtljjbhihllnnaaaGreat
open Go.RowKit

/-- the parts of a network in a box: its lists, each in a block of its own, and the box -/
structure InBox (W : World) (B b gE cap : Nat) (A1 A2 : Option Addr) (c1 c2 : Nat) (ess : List (List (Int × Int))) (ids inputs : List Int) : Prop where
  hes : OwnEs W B (.slice (some ⟨gE, 0, none⟩) ess.length cap) ess
  hids : OwnI W B (.slice A1 ids.length c1) ids
  hins : OwnI W B (.slice A2 inputs.length c2) inputs
  hbox : Blk W b 27 #[.slice (some ⟨gE, 0, none⟩) ess.length cap, .slice A1 ids.length c1, .slice A2 inputs.length c2]

theorem InBox.keep {W W' : World} {B b gE cap : Nat} {A1 A2 : Option Addr} {c1 c2 : Nat} {ess : List (List (Int × Int))} {ids inputs : List Int} (h : InBox W B b gE cap A1 A2 c1 c2 ess ids inputs) (hb : Below W.heap.size W W') : InBox W' B b gE cap A1 A2 c1 c2 ess ids inputs :=
  ⟨h.hes.below hb, h.hids.below hb, h.hins.below hb, h.hbox.below hb⟩

/-- one pair more in the list at i -/
theorem InBox.pushAt {w0 w1 w2 : World} {B b gE cap i : Nat} {A1 A2 : Option Addr} {c1 c2 : Nat} {ess : List (List (Int × Int))} {ids inputs : List Int} (h : InBox w0 B b gE cap A1 A2 c1 c2 ess ids inputs) {us : Nat → Value} {es' : List (Int × Int)} {u' : Value}
    (hv : w0.ownsRow B 36 1 (.slice (some ⟨gE, 0, none⟩) ess.length cap) ess.length ((List.range ess.length).map us)) (hi : ∀ i, i < ess.length → OwnE w0 B (us i) (gl ess i))
    (hd : ∀ i j, i < ess.length → j < ess.length → i ≠ j → ∀ g, (us i).ownBlock = some g → (us j).ownBlock ≠ some g) (hlt : i < ess.length) (hb : Below w0.heap.size w0 w1) (ho : OwnE w2 B u' es') (hg : w1.grownBy w2 (us i).ownBlock) (hl : Lies w1 (us i) u') :
    InBox (w2.setCell ⟨gE, i, none⟩ u') B b gE cap A1 A2 c1 c2 (ess.set i es') ids inputs := by
  have hk2 : KeptBut 38 w0 w2 := (KeptBut.of_below hb).trans (KeptBut.of_grown hg fun g hg' => by
    obtain ⟨cs, h1⟩ := (hi i hlt).type g hg'
    exact ⟨cs, _, (hb.block g ((hi i hlt).lt g hg').2).trans h1⟩)
  have hk3 : KeptBut 36 w2 (w2.setCell ⟨gE, i, none⟩ u') := by
    obtain ⟨cs, fr, h1⟩ := rowType hv gE rfl
    exact KeptBut.of_set (p := ⟨gE, i, none⟩) ((hk2 gE _ _ _ h1 (by decide)).trans h1) _
  have hes := OwnEs.pushAt hv hi hd hlt hb ho hg hl
  refine ⟨by rw [List.length_set]; exact hes, (h.hids.but hk2 (by decide)).but hk3 (by decide), (h.hins.but hk2 (by decide)).but hk3 (by decide), ?_⟩
  rw [List.length_set]
  have b2 : Blk w2 b _ _ := (hk2 b _ _ _ h.hbox (by decide)).trans h.hbox
  exact (hk3 b _ _ _ b2 (by decide)).trans b2

/-- between the append and the store: the box and the outer row are as they were -/
theorem InBox.mid {w0 w1 w2 : World} {B b gE cap i : Nat} {A1 A2 : Option Addr} {c1 c2 : Nat} {ess : List (List (Int × Int))} {ids inputs : List Int} (h : InBox w0 B b gE cap A1 A2 c1 c2 ess ids inputs) {us : Nat → Value} {v : Value} {es : List (Int × Int)}
    (hv : w0.ownsRow B 36 1 (.slice (some ⟨gE, 0, none⟩) ess.length cap) ess.length ((List.range ess.length).map us)) (ho : OwnE w0 B v es) (hlt : i < ess.length) (hb : Below w0.heap.size w0 w1) (hg : w1.grownBy w2 v.ownBlock) :
    (∀ j, w2.cell? ⟨b, j, none⟩ = #[.slice (some ⟨gE, 0, none⟩) ess.length cap, .slice A1 ids.length c1, .slice A2 inputs.length c2][j]?) ∧ w2.cell? ⟨gE, i, none⟩ = some (us i) ∧ w2.frozen? ⟨gE, i, none⟩ = false := by
  have hk2 : KeptBut 38 w0 w2 := (KeptBut.of_below hb).trans (KeptBut.of_grown hg fun g hg' => by
    obtain ⟨cs, h1⟩ := ho.type g hg'
    exact ⟨cs, _, (hb.block g (ho.lt g hg').2).trans h1⟩)
  have b2 : Blk w2 b _ _ := (hk2 b _ _ _ h.hbox (by decide)).trans h.hbox
  have hv2 : w2.ownsRow B 36 1 (.slice (some ⟨gE, 0, none⟩) ess.length cap) ess.length ((List.range ess.length).map us) := by
    refine ⟨hv.1, ?_⟩
    rcases hv.2 with h4 | ⟨g, cap', cur, h1, hB, hh, hr⟩
    · exact .inl h4
    · exact .inr ⟨g, cap', cur, h1, hB, (hk2 g _ _ _ hh (by decide)).trans hh, hr⟩
  exact ⟨b2.cell, OwnEs.at_ hv2 hlt⟩

set_option maxRecDepth 100000 in
set_option maxHeartbeats 16000000 in
theorem neJoin_any {S : Nat → Prop} (u : Value) (N : Net) (v x : Nat) (w : World) (h : NetR w S u N) (hs : Small N) (hv : v < N.ends.length) (hx : x < N.ends.length) :
    Calls Tryz.prog 122 #[u, .int .i64 v, .int .i64 x] w (RetNt w (joinN N v x)) := by
  have HNR := Lib.hid h
  have HS := Lib.hid hs
  have hs1 := hs.1
  have hsv := hs.2.1 v hv
  have hsx := hs.2.1 x hx
  obtain ⟨ve, vi, vn, rfl, he, hi, hn⟩ := h
  obtain ⟨A, c, rfl, -, -, -⟩ := he
  obtain ⟨A1, c1, rfl, -, -, -⟩ := hi
  obtain ⟨A2, c2, rfl, -, -, -⟩ := hn
  have hb2 : ∀ o1 o2, Below w.heap.size w ((w.alloc o1).alloc o2) := fun o1 o2 => ((Below.refl _ _).alloc (Nat.le_refl _) _).alloc (by simp) _
  have HB2 := Lib.hid hb2
  have HRa : Hid (Blk ((w.alloc (.cells #[.slice A N.ends.length c, .slice A1 N.ids.length c1, .slice A2 N.inputs.length c2] 27)).alloc (.cells #[.slice none 0 0, .slice none 0 0, .slice none 0 0] 27)) (w.heap.size + 1) 27 #[.slice none 0 0, .slice none 0 0, .slice none 0 0]) := by
    have := Blk.new (w.alloc (.cells #[.slice A N.ends.length c, .slice A1 N.ids.length c1, .slice A2 N.inputs.length c2] 27)) 27 #[.slice none 0 0, .slice none 0 0, .slice none 0 0]
    exact Lib.hid (by simpa using this)
  clear hb2 hs
  go_enter Tryz.func122, Tryz.ntmps122
  go_wp2_with fail
  refine (neOwn_any _ N _ (HNR.out.below (HB2.out _ _)) HS.out).mono ?_
  rintro e w1 ⟨v1, rfl, ho, hb1⟩
  have HR1 := Lib.hid (HRa.out.below hb1)
  have HB1 := Lib.hid (Below.then_ (HB2.out _ _) hb1)
  obtain ⟨ue, ui, un, rfl, hes, hoi, hon, hdd⟩ := ho
  simp only [World.size_alloc] at hes hoi hon
  have hrl : w.heap.size + 1 < w1.heap.size := HR1.out.lt
  obtain ⟨A5, c5, rfl⟩ := hoi.shape
  obtain ⟨A6, c6, rfl⟩ := hon.shape
  obtain ⟨gE, cap, rfl⟩ : ∃ gE cap, ue = .slice (some ⟨gE, 0, none⟩) N.ends.length cap := by
    obtain ⟨us, h1, _⟩ := hes
    rcases h1.2 with ⟨_, h0⟩ | ⟨g, cap, cur, h2, _⟩
    · omega
    · exact ⟨g, cap, h2⟩
  have HDD := Lib.hid hdd
  have hbb : InBox (w1.alloc (.cells #[.slice (some ⟨gE, 0, none⟩) N.ends.length cap, .slice A5 N.ids.length c5, .slice A6 N.inputs.length c6] 27)) (w.heap.size + 1 + 1) w1.heap.size gE cap A5 A6 c5 c6 N.ends N.ids N.inputs :=
    have hb := (Below.refl w1.heap.size w1).alloc (Nat.le_refl _) (.cells #[.slice (some ⟨gE, 0, none⟩) N.ends.length cap, .slice A5 N.ids.length c5, .slice A6 N.inputs.length c6] 27)
    ⟨hes.below hb, hoi.below hb, hon.below hb, Blk.new _ _ _⟩
  have HIB := Lib.hid hbb
  have HBa := Lib.hid (Below.then_ HB1.out ((Below.refl w1.heap.size w1).alloc (Nat.le_refl _) (.cells #[.slice (some ⟨gE, 0, none⟩) N.ends.length cap, .slice A5 N.ids.length c5, .slice A6 N.inputs.length c6] 27)))
  have HR2 := Lib.hid (HR1.out.alloc (.cells #[.slice (some ⟨gE, 0, none⟩) N.ends.length cap, .slice A5 N.ids.length c5, .slice A6 N.inputs.length c6] 27))
  have hza : w1.heap.size < (w1.alloc (.cells #[.slice (some ⟨gE, 0, none⟩) N.ends.length cap, .slice A5 N.ids.length c5, .slice A6 N.inputs.length c6] 27)).heap.size := by simp
  obtain ⟨b7, hb7⟩ : ∃ b7, b7 = w1.heap.size := ⟨_, rfl⟩
  clear hb1 hes hoi hon hdd hbb
  go_upto_region 2 with (fail)
  rw [← hb7] at hza HIB ⊢
  have hrl7 : w.heap.size + 1 < b7 := by omega
  generalize w1.alloc (.cells #[.slice (some ⟨gE, 0, none⟩) N.ends.length cap, .slice A5 N.ids.length c5, .slice A6 N.inputs.length c6] 27) = wa at *
  obtain ⟨us, hrow, hin, hdis⟩ := HIB.out.hes
  obtain ⟨Av, cv, hav⟩ := (hin v hv).shape
  obtain ⟨Ax, cx, hax⟩ := (hin x hx).shape
  have kb := HIB.out.hbox.cell
  have kv := (OwnEs.at_ hrow hv).1
  have kx := (OwnEs.at_ hrow hx).1
  rw [hav] at kv
  rw [hax] at kx
  have iv1 : (0 : Int) ≤ (v : Int) := by omega
  have iv2 : (v : Int) < (N.ends.length : Int) := by omega
  have ix1 : (0 : Int) ≤ (x : Int) := by omega
  have ix2 : (x : Int) < (N.ends.length : Int) := by omega
  obtain ⟨j, hj⟩ : ∃ j : Nat, j = (gl N.ends x).length + (if v = x then 1 else 0) := ⟨_, rfl⟩
  have hjb : j ≤ 262145 := by rw [hj]; split <;> omega
  have HJ := Lib.hid hj
  have HROW := Lib.hid hrow
  have HIN := Lib.hid hin
  have HDS := Lib.hid hdis
  have HAV := Lib.hid hav
  clear hrow hin hdis hj hav hax hb7
  go_upto_region 3 with (fail)
  go_cut [9] (fun vj W => vj = .int .i64 ((gl N.ends x).length : Nat) ∧ wa = W)
  case first =>
    go_wp2_with fail
    go_meet
    exact ⟨rfl, rfl⟩
  case rest =>
  obtain ⟨rfl, rfl⟩ := hcut
  go_step
  go_step
  go_cut [9] (fun vj W => vj = .int .i64 j ∧ wa = W)
  case first =>
    by_cases hvx : v = x
    · have e1 : (((v : Nat) : Int) == ((x : Nat) : Int)) = true := by simp [hvx]
      have HVX := Lib.hid hvx
      clear hvx
      go_wp2_with fail
      go_meet
      exact ⟨congrArg (Value.int .i64) (by rw [HJ.out, if_pos HVX.out]; omega), rfl⟩
    · have e1 : (((v : Nat) : Int) == ((x : Nat) : Int)) = false := by simp; omega
      have HVX := Lib.hid hvx
      clear hvx
      go_wp2_with fail
      go_meet
      exact ⟨congrArg (Value.int .i64) (by rw [HJ.out, if_neg HVX.out]; omega), rfl⟩
  case rest =>
  obtain ⟨rfl, rfl⟩ := hcut
  go_upto_region 6 with (fail)
  go_cut [] (fun W => InBox W (w.heap.size + 1 + 1) b7 gE cap A5 A6 c5 c6 (N.ends.set v (gl N.ends v ++ [((x : Int), (j : Int))])) N.ids N.inputs ∧ Below w.heap.size w W ∧ Blk W (w.heap.size + 1) 27 #[.slice none 0 0, .slice none 0 0, .slice none 0 0])
  case first =>
    have hOv : OwnE wa (w.heap.size + 1 + 1) (.slice Av (gl N.ends v).length cv) (gl N.ends v) := by
      have := HIN.out v hv
      rw [HAV.out] at this; exact this
    have HOV := Lib.hid hOv
    have hbz : w.heap.size + 1 + 1 ≤ wa.heap.size := by omega
    have hgEl : gE < wa.heap.size := (World.ownsRow.lt HROW.out gE rfl).2
    have kva : ∀ o, (wa.alloc o).cell? ⟨gE, v, none⟩ = some (.slice Av (gl N.ends v).length cv) := fun o => (World.cell?_of_block (w := wa) (Below.heap_alloc wa o gE hgEl)).trans kv
    clear hOv kx
    go_region_law (refine step_append_ends _ rfl (.tmp 36) (.tmp 40) rfl (w.heap.size + 1 + 1) (.slice Av (gl N.ends v).length cv) (gl N.ends v) (by simp [go_sem]) (HOV.out.below ((Below.refl _ _).alloc (Nat.le_refl _) _).drew) (.slice (some ⟨wa.heap.size, 0, none⟩) 1 1) [((x : Int), (j : Int))] (by simp [go_sem]) (EndsR.one (w := (wa.alloc (.cells #[.int .i64 x, .int .i64 j] 38)).drew) (Blk.new wa 38 #[.int .i64 x, .int .i64 j])) (by simp; omega) (by simp; omega) ?_; intro A7 c7 w7 ho7 hg7 hl7; obtain ⟨kb7, kv7, kf7⟩ := HIB.out.mid HROW.out HOV.out hv ((Below.refl wa.heap.size wa).alloc (Nat.le_refl _) (.cells #[.int .i64 x, .int .i64 j] 38)).drew hg7)
    all_goals
      have hX : Below wa.heap.size wa (wa.alloc (.cells #[.int .i64 x, .int .i64 j] 38)).drew := ((Below.refl wa.heap.size wa).alloc (Nat.le_refl _) _).drew
      have hg7' : (wa.alloc (.cells #[.int .i64 x, .int .i64 j] 38)).drew.grownBy w7 (us v).ownBlock := by rw [HAV.out]; exact hg7
      have hl7' : Lies (wa.alloc (.cells #[.int .i64 x, .int .i64 j] 38)).drew (us v) (.slice A7 ((gl N.ends v).length + 1) c7) := by rw [HAV.out]; exact hl7
      have HF : Hid (InBox (w7.setCell ⟨gE, v, none⟩ (.slice A7 ((gl N.ends v).length + 1) c7)) (w.heap.size + 1 + 1) b7 gE cap A5 A6 c5 c6 (N.ends.set v (gl N.ends v ++ [((x : Int), (j : Int))])) N.ids N.inputs ∧ Below w.heap.size w (w7.setCell ⟨gE, v, none⟩ (.slice A7 ((gl N.ends v).length + 1) c7)) ∧ Blk (w7.setCell ⟨gE, v, none⟩ (.slice A7 ((gl N.ends v).length + 1) c7)) (w.heap.size + 1) 27 #[.slice none 0 0, .slice none 0 0, .slice none 0 0]) := by
        refine ⟨HIB.out.pushAt HROW.out HIN.out HDS.out hv hX ho7 hg7' hl7', ?_, ?_⟩
        · exact ((Below.then_ HBa.out hX).grown hg7 (Below.then_ HBa.out hX).size (fun k hk => by have := (HOV.out.lt k hk).1; omega)).setCell (by have := (World.ownsRow.lt HROW.out gE rfl).1; simp; omega) _
        · refine Blk.far ?_ (by have := (World.ownsRow.lt HROW.out gE rfl).1; simp; omega) _
          exact (hg7.block _ (by simp; omega) (fun e => by have := (HOV.out.lt _ e.symm).1; omega)).trans ((HR2.out.alloc _))
      clear hX hg7' hl7' kb7 kv7 kf7 hg7 ho7 hl7
      go_wp2_with fail
      go_meet
      exact HF.out
  case rest =>
  obtain ⟨hib, hbel, hres⟩ := hcut
  obtain ⟨ess1, hess1⟩ : ∃ ess1, ess1 = N.ends.set v (gl N.ends v ++ [((x : Int), (j : Int))]) := ⟨_, rfl⟩
  have hl1 : ess1.length = N.ends.length := by rw [hess1, List.length_set]
  have hgx : (gl ess1 x).length ≤ 262145 := by
    rw [hess1, gl_set hv]
    split
    · simp; omega
    · omega
  rw [← hess1] at hib
  have HE1 := Lib.hid hess1
  have HL1 := Lib.hid hl1
  have hb0 := hib.hbox
  rw [hl1] at hb0
  have HIB1 := Lib.hid hib
  have HBE1 := Lib.hid hbel
  have HRE1 := Lib.hid hres
  have hz6 : b7 < wc.heap.size := hib.hbox.lt
  clear hib hbel hres hess1 HROW HIN HDS HAV HIB HBa HR2 kb kv kx
  obtain ⟨us, hrow, hin, hdis⟩ := HIB1.out.hes
  have hx1 : x < ess1.length := by omega
  obtain ⟨Av, cv, hav⟩ := (hin x hx1).shape
  have kv := (OwnEs.at_ hrow hx1).1
  rw [hav] at kv
  have HROW := Lib.hid hrow
  have HIN := Lib.hid hin
  have HDS := Lib.hid hdis
  have HAV := Lib.hid hav
  have kb := hb0.cell
  have hOv : OwnE wc (w.heap.size + 1 + 1) (.slice Av (gl ess1 x).length cv) (gl ess1 x) := by
    have := HIN.out x hx1
    rw [HAV.out] at this; exact this
  have HOV := Lib.hid hOv
  have hgEl : gE < wc.heap.size := (World.ownsRow.lt HROW.out gE rfl).2
  have kva : ∀ o, (wc.alloc o).cell? ⟨gE, x, none⟩ = some (.slice Av (gl ess1 x).length cv) := fun o => (World.cell?_of_block (w := wc) (Below.heap_alloc wc o gE hgEl)).trans kv
  have hgEb := (World.ownsRow.lt HROW.out gE rfl).1
  clear hrow hin hdis hav hOv hb0 hl1
  generalize hgn : (gl N.ends v).length = i at *
  have HGN := Lib.hid hgn
  clear hgn
  go_upto_region 7 with (fail)
  go_cut [] (fun W => InBox W (w.heap.size + 1 + 1) b7 gE cap A5 A6 c5 c6 (ess1.set x (gl ess1 x ++ [((v : Int), (i : Int))])) N.ids N.inputs ∧ Below w.heap.size w W ∧ Blk W (w.heap.size + 1) 27 #[.slice none 0 0, .slice none 0 0, .slice none 0 0])
  case first =>
    go_region_law (refine step_append_ends _ rfl (.tmp 50) (.tmp 54) rfl (w.heap.size + 1 + 1) (.slice Av (gl ess1 x).length cv) (gl ess1 x) (by simp [go_sem]) (HOV.out.below ((Below.refl _ _).alloc (Nat.le_refl _) _).drew) (.slice (some ⟨wc.heap.size, 0, none⟩) 1 1) [((v : Int), (i : Int))] (by simp [go_sem]) (EndsR.one (w := (wc.alloc (.cells #[.int .i64 v, .int .i64 i] 38)).drew) (Blk.new wc 38 #[.int .i64 v, .int .i64 i])) (by simp; omega) (by simp; omega) ?_; intro A7 c7 w7 ho7 hg7 hl7; obtain ⟨kb7, kv7, kf7⟩ := HIB1.out.mid HROW.out HOV.out hx1 ((Below.refl wc.heap.size wc).alloc (Nat.le_refl _) (.cells #[.int .i64 v, .int .i64 i] 38)).drew hg7; rw [HL1.out] at kb7)
    all_goals
      have hX : Below wc.heap.size wc (wc.alloc (.cells #[.int .i64 v, .int .i64 i] 38)).drew := ((Below.refl wc.heap.size wc).alloc (Nat.le_refl _) _).drew
      have hg7' : (wc.alloc (.cells #[.int .i64 v, .int .i64 i] 38)).drew.grownBy w7 (us x).ownBlock := by rw [HAV.out]; exact hg7
      have hl7' : Lies (wc.alloc (.cells #[.int .i64 v, .int .i64 i] 38)).drew (us x) (.slice A7 ((gl ess1 x).length + 1) c7) := by rw [HAV.out]; exact hl7
      have HF : Hid (InBox (w7.setCell ⟨gE, x, none⟩ (.slice A7 ((gl ess1 x).length + 1) c7)) (w.heap.size + 1 + 1) b7 gE cap A5 A6 c5 c6 (ess1.set x (gl ess1 x ++ [((v : Int), (i : Int))])) N.ids N.inputs ∧ Below w.heap.size w (w7.setCell ⟨gE, x, none⟩ (.slice A7 ((gl ess1 x).length + 1) c7)) ∧ Blk (w7.setCell ⟨gE, x, none⟩ (.slice A7 ((gl ess1 x).length + 1) c7)) (w.heap.size + 1) 27 #[.slice none 0 0, .slice none 0 0, .slice none 0 0]) := by
        refine ⟨HIB1.out.pushAt HROW.out HIN.out HDS.out hx1 hX ho7 hg7' hl7', ?_, ?_⟩
        · exact ((Below.then_ HBE1.out hX).grown hg7 (Below.then_ HBE1.out hX).size (fun k hk => by have := (HOV.out.lt k hk).1; omega)).setCell (by simp; omega) _
        · refine Blk.far ?_ (by simp; omega) _
          exact (hg7.block _ (by simp; omega) (fun e => by have := (HOV.out.lt _ e.symm).1; omega)).trans ((HRE1.out.alloc _))
      clear hX hg7' hl7' kb7 kv7 kf7 hg7 ho7 hl7
      go_wp2_with fail
      go_meet
      exact HF.out
  case rest =>
  obtain ⟨hib, hbel, hres⟩ := hcut
  have hle : (ess1.set x (gl ess1 x ++ [((v : Int), (i : Int))])).length = N.ends.length := by rw [List.length_set]; exact HL1.out
  have hje : joinE N.ends v x = ess1.set x (gl ess1 x ++ [((v : Int), (i : Int))]) := by
    unfold joinE
    simp only
    rw [← HJ.out, ← HE1.out, HGN.out]
  have hb0 := hib.hbox
  rw [hle] at hb0
  have k7 := hb0.cell
  have k2 := hres.cell
  have f2 := hres.free
  have HEE : Hid (OwnEs wc (w.heap.size + 1 + 1) (.slice (some ⟨gE, 0, none⟩) N.ends.length cap) (joinE N.ends v x)) := by
    have := hib.hes
    rw [hle] at this
    rw [hje]; exact Lib.hid this
  have HI1 := Lib.hid hib.hids
  have HI2 := Lib.hid hib.hins
  have HRA := Lib.hid (set3_blk (x := .slice (some ⟨gE, 0, none⟩) N.ends.length cap) (y := .slice A5 N.ids.length c5) (z := .slice A6 N.inputs.length c6) hres)
  have hkp : ∀ b, w.heap.size + 1 + 1 ≤ b → b < wc.heap.size → (set3 wc (w.heap.size + 1) (.slice (some ⟨gE, 0, none⟩) N.ends.length cap) (.slice A5 N.ids.length c5) (.slice A6 N.inputs.length c6)).heap[b]? = wc.heap[b]? := fun b hb _ => set3_block _ _ _ _ _ (by omega)
  have HKP := Lib.hid hkp
  have HBF := Lib.hid (set3_below (p := w.heap.size + 1) hbel (by omega) (.slice (some ⟨gE, 0, none⟩) N.ends.length cap) (.slice A5 N.ids.length c5) (.slice A6 N.inputs.length c6))
  clear hib hbel hres hkp hb0 hje hle kb kv kva HIB1 HOV HIN HDS HAV HROW HBE1 HRE1
  go_wp2_with fail
  have hcc := HRA.out.cell
  unfold set3 at hcc
  refine bodyPost_ret (v := .agg #[.slice (some ⟨gE, 0, none⟩) N.ends.length cap, .slice A5 N.ids.length c5, .slice A6 N.inputs.length c6]) ?_ rfl ?_
  · simp [results, Tryz.results122, go_sem, hcc]
  · exact ⟨_, rfl, ⟨_, _, _, rfl, (HEE.out.keepB HKP.out).mono (by omega), (HI1.out.keepB HKP.out).mono (by omega), (HI2.out.keepB HKP.out).mono (by omega), HDD.out⟩, HBF.out⟩
end Go.Proofs.YtljjbhihllnnaaaGreat

namespace Go.Proofs.YtljjbhihllnnaaaGreat
open Go.RowKit


set_option maxRecDepth 100000 in
set_option maxHeartbeats 64000000 in
theorem neStub_any {S : Nat → Prop} (u : Value) (N : Net) (v : Nat) (w : World) (h : NetR w S u N) (hs : Small N) (hv : v < N.ends.length) :
    Calls Tryz.prog 121 #[u, .int .i64 v] w (RetNt w (stubN N v)) := by
  have HNR := Lib.hid h
  have HS := Lib.hid hs
  have hs1 := hs.1
  have hsv := hs.2.1 v hv
  obtain ⟨ve, vi, vn, rfl, he, hi, hn⟩ := h
  obtain ⟨A, c, rfl, -, -, -⟩ := he
  obtain ⟨A1, c1, rfl, -, -, -⟩ := hi
  obtain ⟨A2, c2, rfl, -, -, -⟩ := hn
  have hb2 : ∀ o1 o2, Below w.heap.size w ((w.alloc o1).alloc o2) := fun o1 o2 => ((Below.refl _ _).alloc (Nat.le_refl _) _).alloc (by simp) _
  have HB2 := Lib.hid hb2
  have HRa : Hid (Blk ((w.alloc (.cells #[.slice A N.ends.length c, .slice A1 N.ids.length c1, .slice A2 N.inputs.length c2] 27)).alloc (.cells #[.slice none 0 0, .slice none 0 0, .slice none 0 0] 27)) (w.heap.size + 1) 27 #[.slice none 0 0, .slice none 0 0, .slice none 0 0]) := by
    have := Blk.new (w.alloc (.cells #[.slice A N.ends.length c, .slice A1 N.ids.length c1, .slice A2 N.inputs.length c2] 27)) 27 #[.slice none 0 0, .slice none 0 0, .slice none 0 0]
    exact Lib.hid (by simpa using this)
  clear hb2 hs
  go_enter Tryz.func121, Tryz.ntmps121
  go_wp2_with fail
  refine (neOwn_any _ N _ (HNR.out.below (HB2.out _ _)) HS.out).mono ?_
  rintro e w1 ⟨v1, rfl, ho, hb1⟩
  have HR1 := Lib.hid (HRa.out.below hb1)
  have HB1 := Lib.hid (Below.then_ (HB2.out _ _) hb1)
  obtain ⟨ue, ui, un, rfl, hes, hoi, hon, hdd⟩ := ho
  simp only [World.size_alloc] at hes hoi hon
  have hrl : w.heap.size + 1 < w1.heap.size := HR1.out.lt
  obtain ⟨A5, c5, rfl⟩ := hoi.shape
  obtain ⟨A6, c6, rfl⟩ := hon.shape
  obtain ⟨gE, cap, rfl⟩ : ∃ gE cap, ue = .slice (some ⟨gE, 0, none⟩) N.ends.length cap := by
    obtain ⟨us, h1, _⟩ := hes
    rcases h1.2 with ⟨_, h0⟩ | ⟨g, cap, cur, h2, _⟩
    · omega
    · exact ⟨g, cap, h2⟩
  have HDD := Lib.hid hdd
  have hbb : InBox (w1.alloc (.cells #[.slice (some ⟨gE, 0, none⟩) N.ends.length cap, .slice A5 N.ids.length c5, .slice A6 N.inputs.length c6] 27)) (w.heap.size + 1 + 1) w1.heap.size gE cap A5 A6 c5 c6 N.ends N.ids N.inputs :=
    have hb := (Below.refl w1.heap.size w1).alloc (Nat.le_refl _) (.cells #[.slice (some ⟨gE, 0, none⟩) N.ends.length cap, .slice A5 N.ids.length c5, .slice A6 N.inputs.length c6] 27)
    ⟨hes.below hb, hoi.below hb, hon.below hb, Blk.new _ _ _⟩
  have HIB := Lib.hid hbb
  have HBa := Lib.hid (Below.then_ HB1.out ((Below.refl w1.heap.size w1).alloc (Nat.le_refl _) (.cells #[.slice (some ⟨gE, 0, none⟩) N.ends.length cap, .slice A5 N.ids.length c5, .slice A6 N.inputs.length c6] 27)))
  have HR2 := Lib.hid (HR1.out.alloc (.cells #[.slice (some ⟨gE, 0, none⟩) N.ends.length cap, .slice A5 N.ids.length c5, .slice A6 N.inputs.length c6] 27))
  have hza : w1.heap.size < (w1.alloc (.cells #[.slice (some ⟨gE, 0, none⟩) N.ends.length cap, .slice A5 N.ids.length c5, .slice A6 N.inputs.length c6] 27)).heap.size := by simp
  obtain ⟨b7, hb7⟩ : ∃ b7, b7 = w1.heap.size := ⟨_, rfl⟩
  clear hb1 hes hoi hon hdd hbb
  go_upto_region 2 with (fail)
  rw [← hb7] at hza HIB ⊢
  have hrl7 : w.heap.size + 1 < b7 := by omega
  generalize w1.alloc (.cells #[.slice (some ⟨gE, 0, none⟩) N.ends.length cap, .slice A5 N.ids.length c5, .slice A6 N.inputs.length c6] 27) = wa at *
  obtain ⟨us, hrow, hin, hdis⟩ := HIB.out.hes
  obtain ⟨Av, cv, hav⟩ := (hin v hv).shape
  have kb := HIB.out.hbox.cell
  have kv := (OwnEs.at_ hrow hv).1
  rw [hav] at kv
  have iv1 : (0 : Int) ≤ (v : Int) := by omega
  have iv2 : (v : Int) < (N.ends.length : Int) := by omega
  have HROW := Lib.hid hrow
  have HIN := Lib.hid hin
  have HDS := Lib.hid hdis
  have HAV := Lib.hid hav
  clear hrow hin hdis hav hb7
  have hOv : OwnE wa (w.heap.size + 1 + 1) (.slice Av (gl N.ends v).length cv) (gl N.ends v) := by
    have := HIN.out v hv
    rw [HAV.out] at this; exact this
  have HOV := Lib.hid hOv
  have hbz : w.heap.size + 1 + 1 ≤ wa.heap.size := by omega
  have hgEl : gE < wa.heap.size := (World.ownsRow.lt HROW.out gE rfl).2
  have hgEb := (World.ownsRow.lt HROW.out gE rfl).1
  have kva : ∀ o, (wa.alloc o).cell? ⟨gE, v, none⟩ = some (.slice Av (gl N.ends v).length cv) := fun o => (World.cell?_of_block (w := wa) (Below.heap_alloc wa o gE hgEl)).trans kv
  have kba : ∀ o, (wa.alloc o).cell? ⟨b7, 0, none⟩ = some (.slice (some ⟨gE, 0, none⟩) N.ends.length cap) := fun o => (HIB.out.hbox.alloc o).cell 0
  clear hOv
  go_cut [] (fun W => InBox W (w.heap.size + 1 + 1) b7 gE cap A5 A6 c5 c6 (stubE N.ends v) N.ids N.inputs ∧ Below w.heap.size w W ∧ Blk W (w.heap.size + 1) 27 #[.slice none 0 0, .slice none 0 0, .slice none 0 0])
  case first =>
    have HCL : Hid (∀ A7 c7 w7, OwnE w7 (w.heap.size + 1 + 1) (.slice A7 ((gl N.ends v).length + 1) c7) (gl N.ends v ++ [((v : Int), ((gl N.ends v).length : Int))]) → (wa.alloc (.cells #[.int .i64 v, .int .i64 (gl N.ends v).length] 38)).drew.grownBy w7 (Value.slice Av (gl N.ends v).length cv).ownBlock → Lies (wa.alloc (.cells #[.int .i64 v, .int .i64 (gl N.ends v).length] 38)).drew (.slice Av (gl N.ends v).length cv) (.slice A7 ((gl N.ends v).length + 1) c7) →
        (InBox (w7.setCell ⟨gE, v, none⟩ (.slice A7 ((gl N.ends v).length + 1) c7)) (w.heap.size + 1 + 1) b7 gE cap A5 A6 c5 c6 (stubE N.ends v) N.ids N.inputs ∧ Below w.heap.size w (w7.setCell ⟨gE, v, none⟩ (.slice A7 ((gl N.ends v).length + 1) c7)) ∧ Blk (w7.setCell ⟨gE, v, none⟩ (.slice A7 ((gl N.ends v).length + 1) c7)) (w.heap.size + 1) 27 #[.slice none 0 0, .slice none 0 0, .slice none 0 0])) := by
      refine Lib.hid fun A7 c7 w7 ho7 hg7 hl7 => ?_
      have hX : Below wa.heap.size wa (wa.alloc (.cells #[.int .i64 v, .int .i64 (gl N.ends v).length] 38)).drew := ((Below.refl wa.heap.size wa).alloc (Nat.le_refl _) _).drew
      have hg7' : (wa.alloc (.cells #[.int .i64 v, .int .i64 (gl N.ends v).length] 38)).drew.grownBy w7 (us v).ownBlock := by rw [HAV.out]; exact hg7
      have hl7' : Lies (wa.alloc (.cells #[.int .i64 v, .int .i64 (gl N.ends v).length] 38)).drew (us v) (.slice A7 ((gl N.ends v).length + 1) c7) := by rw [HAV.out]; exact hl7
      have hse : stubE N.ends v = N.ends.set v (gl N.ends v ++ [((v : Int), ((gl N.ends v).length : Int))]) := by rfl
      refine ⟨by rw [hse]; exact HIB.out.pushAt HROW.out HIN.out HDS.out hv hX ho7 hg7' hl7', ?_, ?_⟩
      · exact ((Below.then_ HBa.out hX).grown hg7 (Below.then_ HBa.out hX).size (fun k hk => by have := (HOV.out.lt k hk).1; omega)).setCell (by simp; omega) _
      · refine Blk.far ?_ (by simp; omega) _
        exact (hg7.block _ (by simp; omega) (fun e => by have := (HOV.out.lt _ e.symm).1; omega)).trans ((HR2.out.alloc _))
    go_region_law (refine step_append_ends _ rfl (.tmp 15) (.tmp 24) rfl (w.heap.size + 1 + 1) (.slice Av (gl N.ends v).length cv) (gl N.ends v) (by simp [go_sem]) (HOV.out.below ((Below.refl _ _).alloc (Nat.le_refl _) _).drew) (.slice (some ⟨wa.heap.size, 0, none⟩) 1 1) [((v : Int), ((gl N.ends v).length : Int))] (by simp [go_sem]) (EndsR.one (w := (wa.alloc (.cells #[.int .i64 v, .int .i64 (gl N.ends v).length] 38)).drew) (Blk.new wa 38 #[.int .i64 v, .int .i64 (gl N.ends v).length])) (by simp; omega) (by simp; omega) ?_; intro A7 c7 w7 ho7 hg7 hl7; have HF := Lib.hid (HCL.out A7 c7 w7 ho7 hg7 hl7); obtain ⟨kb7, kv7, kf7⟩ := HIB.out.mid HROW.out HOV.out hv ((Below.refl wa.heap.size wa).alloc (Nat.le_refl _) (.cells #[.int .i64 v, .int .i64 (gl N.ends v).length] 38)).drew hg7; clear ho7 hg7 hl7)
    all_goals
      go_wp2_with fail
      go_meet
      exact HF.out
  case rest =>
  obtain ⟨hib, hbel, hres⟩ := hcut
  have hle : (stubE N.ends v).length = N.ends.length := stubE_len _ _
  have hb0 := hib.hbox
  rw [hle] at hb0
  have k7 := hb0.cell
  have k2 := hres.cell
  have f2 := hres.free
  have HEE : Hid (OwnEs wc (w.heap.size + 1 + 1) (.slice (some ⟨gE, 0, none⟩) N.ends.length cap) (stubE N.ends v)) := by
    have := hib.hes
    rw [hle] at this
    exact Lib.hid this
  have HI1 := Lib.hid hib.hids
  have HI2 := Lib.hid hib.hins
  have HRA := Lib.hid (set3_blk (x := .slice (some ⟨gE, 0, none⟩) N.ends.length cap) (y := .slice A5 N.ids.length c5) (z := .slice A6 N.inputs.length c6) hres)
  have hkp : ∀ b, w.heap.size + 1 + 1 ≤ b → b < wc.heap.size → (set3 wc (w.heap.size + 1) (.slice (some ⟨gE, 0, none⟩) N.ends.length cap) (.slice A5 N.ids.length c5) (.slice A6 N.inputs.length c6)).heap[b]? = wc.heap[b]? := fun b hb _ => set3_block _ _ _ _ _ (by omega)
  have HKP := Lib.hid hkp
  have HBF := Lib.hid (set3_below (p := w.heap.size + 1) hbel (by omega) (.slice (some ⟨gE, 0, none⟩) N.ends.length cap) (.slice A5 N.ids.length c5) (.slice A6 N.inputs.length c6))
  clear hib hbel hres hkp hb0 hle kb kv kva kba HOV HIN HDS HAV HROW HIB HBa HR2
  go_wp2_with fail
  have hcc := HRA.out.cell
  unfold set3 at hcc
  refine bodyPost_ret (v := .agg #[.slice (some ⟨gE, 0, none⟩) N.ends.length cap, .slice A5 N.ids.length c5, .slice A6 N.inputs.length c6]) ?_ rfl ?_
  · simp [results, Tryz.results121, go_sem, hcc]
  · exact ⟨_, rfl, ⟨_, _, _, rfl, (HEE.out.keepB HKP.out).mono (by omega), (HI1.out.keepB HKP.out).mono (by omega), (HI2.out.keepB HKP.out).mono (by omega), HDD.out⟩, HBF.out⟩
end Go.Proofs.YtljjbhihllnnaaaGreat

namespace Go.Proofs.YtljjbhihllnnaaaGreat
open Go.RowKit

def nearL (N : Net) (v : Nat) : List Int := (gl N.ends v).map Prod.fst
theorem near_take {es : List (Int × Int)} {k : Nat} (h : k < es.length) : (es.map Prod.fst).take (k + 1) = (es.map Prod.fst).take k ++ [(gp es k).1] := by
  rw [List.take_succ_eq_append_getElem (by simpa using h)]
  simp [gp_lt h]

set_option maxRecDepth 100000 in
set_option maxHeartbeats 4000000 in
theorem neNear_any {S : Nat → Prop} (u : Value) (N : Net) (v : Nat) (w : World) (h : NetR w S u N) (hs : Small N) (hv : v < N.ends.length) :
    Calls Tryz.prog 164 #[u, .int .i64 v] w (RetI w (nearL N v)) := by
  have hsv := hs.2.1 v hv
  have hs1 := hs.1
  obtain ⟨ve, vi, vn, rfl, he, hi, hn⟩ := h
  obtain ⟨A, c, rfl, -, -, hxe⟩ := he
  obtain ⟨A1, c1, rfl, -, -, -⟩ := hi
  obtain ⟨A2, c2, rfl, -, -, -⟩ := hn
  obtain ⟨be, offe, rfl, -, hce⟩ := hxe (by omega)
  obtain ⟨uv, huv, hrv⟩ := hce v hv
  obtain ⟨Av, cv, rfl, hnv, hmv, hcv⟩ := hrv
  unfold maxLen at hmv
  have HCV := Lib.hid hcv
  have iv1 : (0 : Int) ≤ (v : Int) := by omega
  have iv2 : (v : Int) < (N.ends.length : Int) := by omega
  obtain ⟨es, hes⟩ : ∃ es, es = gl N.ends v := ⟨_, rfl⟩
  have hnl : nearL N v = es.map Prod.fst := by unfold nearL; rw [hes]
  have HNL := Lib.hid hnl
  rw [← hes] at huv HCV hsv hnv
  have kuv := fun o => ((Below.refl w.heap.size w).alloc (Nat.le_refl _) o).cell (p := ⟨be, offe + v, none⟩) (lt_of_cell huv)
  have kuv' := fun o => (kuv o).trans huv
  clear hs hce hxe hcv hnl hes kuv huv
  go_enter Tryz.func164, Tryz.ntmps164
  go_wp2_with fail
  have HB0 := Lib.hid ((Below.refl w.heap.size w).alloc (Nat.le_refl _) (.cells #[.slice (some ⟨be, offe, none⟩) N.ends.length c, .slice A1 N.ids.length c1, .slice A2 N.inputs.length c2] 27))
  clear kuv'
  generalize w.alloc (.cells #[.slice (some ⟨be, offe, none⟩) N.ends.length c, .slice A1 N.ids.length c1, .slice A2 N.inputs.length c2] 27) = wa at *
  go_loopw [5, 14] (fun vo vi wr => ∃ k : Nat, k ≤ es.length ∧ vi = .int .i64 k ∧ OwnI wr w.heap.size vo ((es.map Prod.fst).take k) ∧ Below w.heap.size w wr)
    (fun _ vi _ => es.length - (intOf vi).toNat)
  case atStart => exact ⟨0, Nat.zero_le _, rfl, OwnI.nil, HB0.out⟩
  case round =>
    obtain ⟨k, hk, rfl, ho, hbel⟩ := hrel
    have hlk : ((es.map Prod.fst).take k).length = k := by simp; omega
    obtain ⟨A0, c0, hA0⟩ := ho.shape
    rw [hlk] at hA0
    subst hA0
    have HO := Lib.hid ho
    have HBE := Lib.hid hbel
    have hz := hbel.size
    clear HB0
    by_cases hlt : k < es.length
    · obtain ⟨bv, offv, rfl, -, hcell⟩ := HCV.out (by omega)
      obtain ⟨d1, d2⟩ := hcell k hlt
      have D1 : wr.cell? ⟨bv, offv + k * 2, none⟩ = some (.int .i64 (gp es k).1) := (hbel.cell (p := ⟨bv, offv + k * 2, none⟩) (lt_of_cell d1)).trans d1
      have D2 : wr.cell? ⟨bv, offv + k * 2 + 1, none⟩ = some (.int .i64 (gp es k).2) := (hbel.cell (p := ⟨bv, offv + k * 2 + 1, none⟩) (lt_of_cell d2)).trans d2
      have j1 : (0 : Int) ≤ (k : Int) := by omega
      have j2 : (k : Int) < (es.length : Int) := by omega
      have kc1 : ((wr.alloc (.cells #[.int .i64 (gp es k).1, .int .i64 (gp es k).2] 38)).alloc (.cells #[.int .i64 (gp es k).1] 3)).cell? ⟨wr.heap.size + 1, 0, none⟩ = some (.int .i64 (gp es k).1) := by
        have := cell_one (wr.alloc (.cells #[.int .i64 (gp es k).1, .int .i64 (gp es k).2] 38)) 3 (.int .i64 (gp es k).1)
        rwa [World.size_alloc] at this
      have HC1 := Lib.hid kc1
      clear ho hbel hcell d1 d2 kc1
      go_wp2_with (at_builtin; refine wpList_append_int _ rfl (.tmp 18) (.tmp 21) rfl w.heap.size (.slice A0 k c0) ((es.map Prod.fst).take k) rfl ((HO.out.alloc _).alloc _) _ (gp es k).1 rfl HC1.out (by omega) (by simp; omega) ?_)
      intro A7 c7 w7 ho7 hg7
      have HO7 := Lib.hid ho7
      have hba : Below w.heap.size w ((wr.alloc (.cells #[.int .i64 (gp es k).1, .int .i64 (gp es k).2] 38)).alloc (.cells #[.int .i64 (gp es k).1] 3)) := (HBE.out.alloc hz _).alloc (by simp; omega) _
      have HB7 := Lib.hid (below_grown hba ((HO.out.alloc _).alloc _) hg7 (by simp; omega))
      clear ho7 hg7 hba
      go_wp2_with fail
      go_roundw
      case rel => exact ⟨k + 1, by omega, by go_num, by rw [near_take hlt]; simpa [hlk] using HO7.out, HB7.out⟩
      case measure => simp [intOf]; omega
    · obtain rfl : k = es.length := by omega
      clear ho hbel
      go_wp2_with fail
      go_ret
      refine ⟨_, rfl, ?_, HBE.out⟩
      have h9 := HO.out
      rw [List.take_of_length_le (by simp)] at h9
      rw [HNL.out]
      exact h9
end Go.Proofs.YtljjbhihllnnaaaGreat

namespace Go.Proofs.YtljjbhihllnnaaaGreat
open Go.RowKit


theorem shift_take {n : Nat} {es : List (Int × Int)} {j : Nat} (h : j < es.length) : (shiftE n es).take (j + 1) = (shiftE n es).take j ++ [((gp es j).1 + n, (gp es j).2)] := by
  rw [List.take_succ_eq_append_getElem (by simpa [shiftE] using h), gp_lt h]
  simp [shiftE]

set_option maxRecDepth 100000 in
set_option maxHeartbeats 8000000 in
theorem neUnion_any {S S' : Nat → Prop} (u u' : Value) (M N : Net) (w : World) (h : NetR w S u M) (h' : NetR w S' u' N) (hs : Small M) (hs' : Small N) (hsym : Sym N.ends) :
    Calls Tryz.prog 119 #[u, u'] w (RetNt w (unionN M N)) := by
  have HNR := Lib.hid h
  have HS := Lib.hid hs
  have HSY := Lib.hid hsym
  have hs1 := hs.1
  have hsi := hs.2.2.1
  have hsn := hs.2.2.2
  have hti := hs'.2.2.1
  have htn := hs'.2.2.2
  have ht1 := hs'.1
  have HS2 := Lib.hid hs'.2.1
  obtain ⟨ve, vi, vn, rfl, he, hi, hn⟩ := h
  obtain ⟨A, c, rfl, -, -, -⟩ := he
  obtain ⟨A1, c1, rfl, -, -, -⟩ := hi
  obtain ⟨A2, c2, rfl, -, -, -⟩ := hn
  obtain ⟨ve', vi', vn', rfl, he', hi', hn'⟩ := h'
  have HI' := Lib.hid hi'
  have HN' := Lib.hid hn'
  obtain ⟨D, d, rfl, -, -, hx'⟩ := he'
  obtain ⟨D1, d1, rfl, -, -, -⟩ := hi'
  obtain ⟨D2, d2, rfl, -, -, -⟩ := hn'
  have HX := Lib.hid hx'
  obtain ⟨wz, hwz⟩ : ∃ wz, wz = ((w.alloc (.cells #[.slice A M.ends.length c, .slice A1 M.ids.length c1, .slice A2 M.inputs.length c2] 27)).alloc (.cells #[.slice D N.ends.length d, .slice D1 N.ids.length d1, .slice D2 N.inputs.length d2] 27)).alloc (.cells #[.slice none 0 0, .slice none 0 0, .slice none 0 0] 27) := ⟨_, rfl⟩
  have hzs : wz.heap.size = w.heap.size + 3 := by rw [hwz]; simp
  have HBz : Hid (Below w.heap.size w wz) := Lib.hid (by rw [hwz]; exact (((Below.refl _ _).alloc (Nat.le_refl _) _).alloc (by simp) _).alloc (by simp; omega) _)
  have HKM : Hid (Blk wz w.heap.size 27 #[.slice A M.ends.length c, .slice A1 M.ids.length c1, .slice A2 M.inputs.length c2]) := Lib.hid (by
    rw [hwz]; exact ((Blk.new w _ _).alloc _).alloc _)
  have HKN : Hid (Blk wz (w.heap.size + 1) 27 #[.slice D N.ends.length d, .slice D1 N.ids.length d1, .slice D2 N.inputs.length d2]) := Lib.hid (by
    rw [hwz]
    have := Blk.new (w.alloc (.cells #[.slice A M.ends.length c, .slice A1 M.ids.length c1, .slice A2 M.inputs.length c2] 27)) 27 #[.slice D N.ends.length d, .slice D1 N.ids.length d1, .slice D2 N.inputs.length d2]
    rw [World.size_alloc] at this
    exact this.alloc _)
  have HKR : Hid (Blk wz (w.heap.size + 1 + 1) 27 #[.slice none 0 0, .slice none 0 0, .slice none 0 0]) := Lib.hid (by
    rw [hwz]
    have := Blk.new ((w.alloc (.cells #[.slice A M.ends.length c, .slice A1 M.ids.length c1, .slice A2 M.inputs.length c2] 27)).alloc (.cells #[.slice D N.ends.length d, .slice D1 N.ids.length d1, .slice D2 N.inputs.length d2] 27)) 27 #[.slice none 0 0, .slice none 0 0, .slice none 0 0]
    rw [World.size_alloc, World.size_alloc] at this
    exact this)
  have HZ := Lib.hid hwz
  clear hs hs' hsym hx' hwz
  go_enter Tryz.func119, Tryz.ntmps119
  go_wp2_with fail
  rw [← HZ.out]
  refine (neOwn_any _ M wz (HNR.out.below HBz.out) HS.out).mono ?_
  rintro e w1 ⟨v1, rfl, ho, hb1⟩
  clear HZ HNR
  obtain ⟨ue, ui, un, rfl, hes, hoi, hon, hdd⟩ := ho
  obtain ⟨Ae, ce, rfl⟩ := hes.shape
  obtain ⟨A5, c5, rfl⟩ := hoi.shape
  obtain ⟨A6, c6, rfl⟩ := hon.shape
  have hz1 := hb1.size
  have hba := (Below.refl w1.heap.size w1).alloc (Nat.le_refl _) (.cells #[.slice Ae M.ends.length ce, .slice A5 M.ids.length c5, .slice A6 M.inputs.length c6] 27)
  have HES := Lib.hid (hes.below hba)
  have HOI := Lib.hid (hoi.below hba)
  have HON := Lib.hid (hon.below hba)
  have HDD : Hid (Apart (.slice A5 M.ids.length c5) (.slice A6 M.inputs.length c6)) := Lib.hid hdd
  have HBX := Lib.hid (Blk.new w1 27 #[.slice Ae M.ends.length ce, .slice A5 M.ids.length c5, .slice A6 M.inputs.length c6])
  have HBA := Lib.hid (Below.then_ hb1 hba)
  obtain ⟨b5, hb5⟩ : ∃ b5, b5 = w1.heap.size := ⟨_, rfl⟩
  clear hes hoi hon hdd hba hb1
  go_upto_region 2 with (fail)
  rw [← hb5] at HBX hz1 ⊢
  generalize w1.alloc (.cells #[.slice Ae M.ends.length ce, .slice A5 M.ids.length c5, .slice A6 M.inputs.length c6] 27) = wa at *
  clear hb5
  have kb5 := HBX.out.cell
  have kbN := (HKN.out.below HBA.out).cell
  have hza := HBA.out.size
  go_upto_region 3 with (at_builtin; refine wpList_append_intsL _ rfl (.tmp 14) (.tmp 16) rfl wz.heap.size (.slice A5 M.ids.length c5) M.ids rfl HOI.out (.slice D1 N.ids.length d1) N.ids rfl (HI'.out.below (Below.then_ HBz.out HBA.out)) (by omega) (by omega) ?_; intro A7 c7 w7 ho7 hg7 hl7; have hk7 : KeptBut 3 wa w7 := KeptBut.of_grown hg7 (rowType HOI.out); have hx7 := (hk7 b5 _ _ _ HBX.out (by decide)).trans HBX.out; have kx7 := Blk.cell hx7; have fx7 := Blk.free hx7)
  have hk8 : KeptBut 27 w7 (w7.setCell ⟨b5, 1, none⟩ (.slice A7 (M.ids.length + N.ids.length) c7)) := KeptBut.of_set (p := ⟨b5, 1, none⟩) hx7 _
  have h78 := HON.out.beside HDD.out hg7 hl7
  have HES8 := Lib.hid ((HES.out.but hk7 (by decide) (by decide)).but hk8 (by decide) (by decide))
  have HOI8 := Lib.hid (ho7.but hk8 (by decide))
  have HON8 := Lib.hid (h78.1.but hk8 (by decide))
  have HDD8 := Lib.hid h78.2
  have HBX8 : Hid (Blk (w7.setCell ⟨b5, 1, none⟩ (.slice A7 (M.ids.length + N.ids.length) c7)) b5 27 #[.slice Ae M.ends.length ce, .slice A7 (M.ids.length + N.ids.length) c7, .slice A6 M.inputs.length c6]) := Lib.hid (Blk.put hx7 1 _)
  have HBA8 := Lib.hid ((HBA.out.grown hg7 hza (fun k hk => (HOI.out.blk k hk).1)).setCell (p := ⟨b5, 1, none⟩) hz1 (.slice A7 (M.ids.length + N.ids.length) c7))
  clear hk8 h78 hk7 hx7 kx7 fx7 ho7 hg7 hl7 kb5 kbN HES HOI HON HDD HBX HBA hza
  generalize w7.setCell ⟨b5, 1, none⟩ (.slice A7 (M.ids.length + N.ids.length) c7) = w8 at *
  have kb5 := HBX8.out.cell
  have kbN := (HKN.out.below HBA8.out).cell
  have hza := HBA8.out.size
  go_upto_region 4 with (at_builtin; refine wpList_append_intsL _ rfl (.tmp 20) (.tmp 22) rfl wz.heap.size (.slice A6 M.inputs.length c6) M.inputs rfl HON8.out (.slice D2 N.inputs.length d2) N.inputs rfl (HN'.out.below (Below.then_ HBz.out HBA8.out)) (by omega) (by omega) ?_; intro A9 c9 w9 ho9 hg9 hl9; have hk9 : KeptBut 3 w8 w9 := KeptBut.of_grown hg9 (rowType HON8.out); have hx9 := (hk9 b5 _ _ _ HBX8.out (by decide)).trans HBX8.out; have kx9 := Blk.cell hx9; have fx9 := Blk.free hx9)
  have hkA : KeptBut 27 w9 (w9.setCell ⟨b5, 2, none⟩ (.slice A9 (M.inputs.length + N.inputs.length) c9)) := KeptBut.of_set (p := ⟨b5, 2, none⟩) hx9 _
  have h9A := HOI8.out.beside HDD8.out.symm hg9 hl9
  have HES := Lib.hid ((HES8.out.but hk9 (by decide) (by decide)).but hkA (by decide) (by decide))
  have HON := Lib.hid (ho9.but hkA (by decide))
  have HOI := Lib.hid (h9A.1.but hkA (by decide))
  have HDD := Lib.hid h9A.2.symm
  have HBX : Hid (Blk (w9.setCell ⟨b5, 2, none⟩ (.slice A9 (M.inputs.length + N.inputs.length) c9)) b5 27 #[.slice Ae M.ends.length ce, .slice A7 (M.ids.length + N.ids.length) c7, .slice A9 (M.inputs.length + N.inputs.length) c9]) := Lib.hid (Blk.put hx9 2 _)
  have HBA := Lib.hid ((HBA8.out.grown hg9 hza (fun k hk => (HON8.out.blk k hk).1)).setCell (p := ⟨b5, 2, none⟩) hz1 (.slice A9 (M.inputs.length + N.inputs.length) c9))
  clear hkA h9A hk9 hx9 kx9 fx9 ho9 hg9 hl9 kb5 kbN HES8 HOI8 HON8 HDD8 HBX8 HBA8 hza HI' HN'
  generalize w9.setCell ⟨b5, 2, none⟩ (.slice A9 (M.inputs.length + N.inputs.length) c9) = wv at *
  have kbN := (HKN.out.below HBA.out).cell
  go_wp2_with fail
  clear kbN
  go_loopw [28] (fun vi wr => ∃ (k : Nat) (A0 : Option Addr) (c0 : Nat), k ≤ N.ends.length ∧ vi = .int .i64 k ∧ Blk wr b5 27 #[.slice A0 (M.ends.length + k) c0, .slice A7 (M.ids.length + N.ids.length) c7, .slice A9 (M.inputs.length + N.inputs.length) c9] ∧
      OwnEs wr wz.heap.size (.slice A0 (M.ends.length + k) c0) (M.ends ++ (N.ends.take k).map (shiftE M.ends.length)) ∧ OwnI wr wz.heap.size (.slice A7 (M.ids.length + N.ids.length) c7) (M.ids ++ N.ids) ∧ OwnI wr wz.heap.size (.slice A9 (M.inputs.length + N.inputs.length) c9) (M.inputs ++ N.inputs) ∧ Below wz.heap.size wz wr)
    (fun vi _ => N.ends.length - (intOf vi).toNat)
  case atStart => exact ⟨0, Ae, ce, Nat.zero_le _, rfl, HBX.out, by simpa using HES.out, HOI.out, HON.out, HBA.out⟩
  case round =>
    clear HBX HES HOI HON HBA
    obtain ⟨k, A0, c0, hk, rfl, hbx, hes, hoi, hon, hbr⟩ := hrel
    have HBX := Lib.hid hbx
    have HES := Lib.hid hes
    have HOI := Lib.hid hoi
    have HON := Lib.hid hon
    have HBR := Lib.hid hbr
    have hzr := hbr.size
    by_cases hlt : k < N.ends.length
    · obtain ⟨be, offe, rfl, -, hce⟩ := HX.out (by omega)
      obtain ⟨uk, huk, hur⟩ := hce k hlt
      have hBw := Below.then_ HBz.out hbr
      have ku : wr.cell? ⟨be, offe + k, none⟩ = some uk := (hBw.cell (p := ⟨be, offe + k, none⟩) (lt_of_cell huk)).trans huk
      obtain ⟨Av, cv, rfl, hnv, hmv, hcv⟩ := hur
      unfold maxLen at hmv
      have hsk := HS2.out k hlt
      have HSK := Lib.hid (fun j (hj : j < (gl N.ends k).length) => HSY.out k j hlt hj)
      have HCV := Lib.hid hcv
      obtain ⟨es, hese⟩ : ∃ es, es = gl N.ends k := ⟨_, rfl⟩
      have HEQ := Lib.hid hese
      have HPT : Hid (∀ j, j < es.length → ∃ x y : Nat, gp es j = ((x : Int), (y : Int)) ∧ x < N.ends.length) := Lib.hid (by
        intro j hj
        rw [hese] at hj
        obtain ⟨x, y, e1, hx, -⟩ := HSK.out j hj
        exact ⟨x, y, by rw [hese]; exact e1, hx⟩)
      rw [← hese] at ku HCV hsk hnv
      have HBW := Lib.hid hBw
      obtain ⟨wo, rfl⟩ : ∃ wo, wo = wr := ⟨_, rfl⟩
      clear hbx hes hoi hon hbr hce huk hcv HSK hese hBw
      go_wp2_with fail
      clear ku
      go_loopw [8, 34] (fun vo vj wi => ∃ (j : Nat) (Ao : Option Addr) (co : Nat), j ≤ es.length ∧ vj = .int .i64 j ∧ vo = .slice Ao j co ∧ OwnE wi wo.heap.size (.slice Ao j co) ((shiftE M.ends.length es).take j) ∧ Below wo.heap.size wo wi)
        (fun _ vj _ => es.length - (intOf vj).toNat)
      case atStart => exact ⟨0, none, 0, Nat.zero_le _, rfl, rfl, by simpa using OwnE.nil, Below.refl _ _⟩
      case round =>
        obtain ⟨j, Ao, co, hj, rfl, rfl, hoe, hbi⟩ := hrel
        have HOE := Lib.hid hoe
        have HBI := Lib.hid hbi
        have hlj : ((shiftE M.ends.length es).take j).length = j := by simp [shiftE]; omega
        have hzi := hbi.size
        clear hoe hbi
        by_cases hltj : j < es.length
        · obtain ⟨bv, offv, rfl, -, hcell⟩ := HCV.out (by omega)
          obtain ⟨d1, d2⟩ := hcell j hltj
          obtain ⟨x, y, hxy, hx⟩ := HPT.out j hltj
          have HXY := Lib.hid hxy
          rw [hxy] at d1 d2
          have hBi := Below.then_ HBW.out HBI.out
          have D1 : wr.cell? ⟨bv, offv + j * 2, none⟩ = some (.int .i64 x) := (hBi.cell (p := ⟨bv, offv + j * 2, none⟩) (lt_of_cell d1)).trans d1
          have D2 : wr.cell? ⟨bv, offv + j * 2 + 1, none⟩ = some (.int .i64 y) := (hBi.cell (p := ⟨bv, offv + j * 2 + 1, none⟩) (lt_of_cell d2)).trans d2
          have kM := fun o => (((HKM.out.below HBR.out).below HBI.out).alloc o).cell
          have j1 : (0 : Int) ≤ (j : Int) := by omega
          have j2 : (j : Int) < (es.length : Int) := by omega
          have hw1 : IntKind.i64.wrap ((x : Int) + (M.ends.length : Int)) = (x : Int) + (M.ends.length : Int) := IntWalk.i64_in _ (by omega)
          have kc : Blk ((wr.alloc (.cells #[.int .i64 x, .int .i64 y] 38)).alloc (.cells #[.int .i64 ((x : Int) + (M.ends.length : Int)), .int .i64 y] 38)) (wr.heap.size + 1) 38 #[.int .i64 ((x : Int) + (M.ends.length : Int)), .int .i64 y] := by
            have := Blk.new (wr.alloc (.cells #[.int .i64 x, .int .i64 y] 38)) 38 #[.int .i64 ((x : Int) + (M.ends.length : Int)), .int .i64 y]
            rwa [World.size_alloc] at this
          have HKC := Lib.hid kc
          have hb2 : Below wr.heap.size wr ((wr.alloc (.cells #[.int .i64 x, .int .i64 y] 38)).alloc (.cells #[.int .i64 ((x : Int) + (M.ends.length : Int)), .int .i64 y] 38)) := ((Below.refl _ _).alloc (Nat.le_refl _) _).alloc (by simp) _
          have HB2 := Lib.hid hb2
          clear d1 d2 hcell hxy hBi kc hb2
          go_wp2_with (at_builtin; refine wpList_append_ends _ rfl (.tmp 38) (.tmp 48) rfl wo.heap.size (.slice Ao j co) ((shiftE M.ends.length es).take j) rfl (HOE.out.below HB2.out) (.slice (some ⟨wr.heap.size + 1, 0, none⟩) 1 1) [((x : Int) + (M.ends.length : Int), (y : Int))] rfl (EndsR.one HKC.out) (by simp; omega) (by simp; omega) ?_)
          intro A8 c8 w8 ho8 hg8 hl8
          have HO8 := Lib.hid ho8
          have HB8 := Lib.hid ((Below.then_ HBI.out HB2.out).grown hg8 (Below.then_ HBI.out HB2.out).size (fun q hq => (HOE.out.lt q hq).1))
          clear ho8 hg8 hl8 kM D1 D2
          go_wp2_with fail
          go_roundw
          case rel =>
            refine ⟨j + 1, A8, c8, by omega, by go_num, by simp, ?_, HB8.out⟩
            have h9 := HO8.out
            rw [shift_take hltj, HXY.out]
            simpa [hlj] using h9
          case measure => simp [intOf]; omega
        · obtain rfl : j = es.length := by omega
          have hse : (shiftE M.ends.length es).take es.length = shiftE M.ends.length es := List.take_of_length_le (by simp [shiftE])
          rw [hse] at HOE
          obtain ⟨us, hrow, hin, hdis⟩ := HES.out
          have hlk : (M.ends ++ (N.ends.take k).map (shiftE M.ends.length)).length = M.ends.length + k := by simp; omega
          have HROW := Lib.hid hrow
          have HIN := Lib.hid hin
          have HDS := Lib.hid hdis
          have hbx := HBX.out.below HBI.out
          have kb5 := fun o => (hbx.alloc o).cell
          have kb5' := hbx.cell
          have hb5w : b5 < wo.heap.size := HBX.out.lt
          have hneb : (Value.slice A0 (M.ends.length + k) c0).ownBlock ≠ some b5 := fun e => by
            obtain ⟨cs, fr, h1⟩ := rowType HROW.out b5 e
            have h2 := HBX.out
            unfold Blk at h2
            rw [h1] at h2
            simp at h2
          have hrow1 : wr.ownsRow wz.heap.size 36 1 (.slice A0 (M.ends.length + k) c0) (M.ends.length + k) ((List.range (M.ends.length + k)).map us) := by
            have h1 := HROW.out
            rw [hlk] at h1
            refine ⟨h1.1, ?_⟩
            rcases h1.2 with h4 | ⟨g, cap', cur, h2, hB, hh, hr⟩
            · exact .inl h4
            · exact .inr ⟨g, cap', cur, h2, hB, (HBI.out.block g (Array.getElem?_eq_some_iff.1 hh).1).trans hh, hr⟩
          have HROW1 := Lib.hid hrow1
          have HBX1 := Lib.hid hbx
          clear hrow hin hdis hbx hrow1 hse
          go_wp2_with (at_builtin; refine wpList_append_slice _ rfl (.tmp 52) (.tmp 54) rfl wz.heap.size (.slice A0 (M.ends.length + k) c0) (M.ends.length + k) ((List.range (M.ends.length + k)).map us) rfl (World.ownsRow.alloc HROW1.out _) wr.heap.size Ao es.length co rfl (Blk.new wr _ _) (by omega) (by simp; omega) ?_; intro A8 c8 w8 hr8 hg8 hl8; have hx8 : Blk w8 b5 27 #[.slice A0 (M.ends.length + k) c0, .slice A7 (M.ids.length + N.ids.length) c7, .slice A9 (M.inputs.length + N.inputs.length) c9] := (hg8.block b5 (by simp; omega) (Ne.symm hneb)).trans (HBX1.out.alloc _); have kx8 := hx8.cell; have fx8 := hx8.free)
          have hba : Below wo.heap.size wo (wr.alloc (.cells #[.slice Ao es.length co] 36)) := HBI.out.alloc hzi _
          have hes8 : OwnEs w8 wz.heap.size (.slice A8 (M.ends.length + k + 1) c8) (M.ends ++ (N.ends.take (k + 1)).map (shiftE M.ends.length)) := by
            have h9 := OwnEs.push (w0 := wo) (B := wz.heap.size) (v := .slice A0 (M.ends.length + k) c0) (ess := M.ends ++ (N.ends.take k).map (shiftE M.ends.length)) (es := shiftE M.ends.length es) (us := us) (by have := HROW.out; rw [hlk] at this ⊢; exact this) HIN.out HDS.out hba (HOE.out.below ((Below.refl _ _).alloc (Nat.le_refl _) _)) hzr (by rw [hlk]; exact hr8) hg8
            rw [List.append_assoc] at h9
            rw [List.take_succ_eq_append_getElem hlt, List.map_append]
            rw [HEQ.out, gl_lt hlt] at h9
            exact h9
          have hkb8 : KeptBut 36 wo w8 := (KeptBut.of_below hba).trans (KeptBut.of_grown hg8 (rowType (World.ownsRow.alloc HROW1.out _)))
          have hkb9 : KeptBut 27 w8 (w8.setCell ⟨b5, 0, none⟩ (.slice A8 (M.ends.length + k + 1) c8)) := KeptBut.of_set (p := ⟨b5, 0, none⟩) hx8 _
          have HR1 := Lib.hid (hes8.but hkb9 (by decide) (by decide))
          have HR2 := Lib.hid ((HOI.out.but hkb8 (by decide)).but hkb9 (by decide))
          have HR3 := Lib.hid ((HON.out.but hkb8 (by decide)).but hkb9 (by decide))
          have HR4 : Hid (Blk (w8.setCell ⟨b5, 0, none⟩ (.slice A8 (M.ends.length + k + 1) c8)) b5 27 #[.slice A8 (M.ends.length + k + 1) c8, .slice A7 (M.ids.length + N.ids.length) c7, .slice A9 (M.inputs.length + N.inputs.length) c9]) := Lib.hid (Blk.put hx8 0 _)
          have HR5 := Lib.hid (((HBR.out.trans (hba.mono hzr)).grown hg8 (by simp; omega) (fun q hq => (World.ownsRow.lt HROW.out q hq).1)).setCell (p := ⟨b5, 0, none⟩) hz1 (.slice A8 (M.ends.length + k + 1) c8))
          clear hba hes8 hkb8 hkb9 hx8 kx8 fx8 hr8 hg8 hl8 kb5 kb5'
          go_wp2_with fail
          go_roundw
          case rel => exact ⟨k + 1, A8, c8, by omega, by go_num, HR4.out, HR1.out, HR2.out, HR3.out, HR5.out⟩
          case measure => simp [intOf]; omega
    · obtain rfl : k = N.ends.length := by omega
      have hse : M.ends ++ (N.ends.take N.ends.length).map (shiftE M.ends.length) = (unionN M N).ends := by
        rw [List.take_length]; rfl
      have HEE : Hid (OwnEs wr wz.heap.size (.slice A0 (M.ends.length + N.ends.length) c0) (unionN M N).ends) := by
        rw [hse] at hes; exact Lib.hid hes
      have hres := HKR.out.below hbr
      have k7 := hbx.cell
      have k2 := hres.cell
      have f2 := hres.free
      have HRA := Lib.hid (set3_blk (x := .slice A0 (M.ends.length + N.ends.length) c0) (y := .slice A7 (M.ids.length + N.ids.length) c7) (z := .slice A9 (M.inputs.length + N.inputs.length) c9) hres)
      have hkp : ∀ b, wz.heap.size ≤ b → b < wr.heap.size → (set3 wr (w.heap.size + 1 + 1) (.slice A0 (M.ends.length + N.ends.length) c0) (.slice A7 (M.ids.length + N.ids.length) c7) (.slice A9 (M.inputs.length + N.inputs.length) c9)).heap[b]? = wr.heap[b]? := fun b hb _ => set3_block _ _ _ _ _ (by omega)
      have HKP := Lib.hid hkp
      have HBF := Lib.hid (set3_below (p := w.heap.size + 1 + 1) (Below.then_ HBz.out hbr) (by omega) (.slice A0 (M.ends.length + N.ends.length) c0) (.slice A7 (M.ids.length + N.ids.length) c7) (.slice A9 (M.inputs.length + N.inputs.length) c9))
      clear hbx hes hoi hon hbr hkp hse hres HES HBX HBR
      go_wp2_with fail
      have hcc := HRA.out.cell
      unfold set3 at hcc
      refine bodyPost_ret (v := .agg #[.slice A0 (M.ends.length + N.ends.length) c0, .slice A7 (M.ids.length + N.ids.length) c7, .slice A9 (M.inputs.length + N.inputs.length) c9]) ?_ rfl ?_
      · simp [results, Tryz.results119, go_sem, hcc]
      · exact ⟨_, rfl, ⟨_, _, _, rfl, (HEE.out.keepB HKP.out).mono (by omega), (HOI.out.keepB HKP.out).mono (by omega), (HON.out.keepB HKP.out).mono (by omega), HDD.out⟩, HBF.out⟩
end Go.Proofs.YtljjbhihllnnaaaGreat
