/- The drawing of networks: identifiers. -/
import Derived.Test.YtljjbhihllnnaaaGreatCJn25
import Derived.Test.YtljjbhihllnnaaaGreatCJn16
import Derived.Test.YtljjbhihllnnaaaGreatCJn7
namespace Go.Proofs.YtljjbhihllnnaaaGreat
open Go.RowKit

/-- the same network with as many identifiers as nodes -/
def IdsOf (N N' : Net) : Prop := N'.ends = N.ends ∧ N'.inputs = N.inputs ∧ N'.ids.length = N.ends.length

set_option maxRecDepth 100000 in
set_option maxHeartbeats 4000000 in
theorem withIds_any {S : Nat → Prop} (w : World) (gc : Nat) (cv : Value) (L A : Nat) (u : Value) (N : Net) (hc : CurR w gc cv L A) (hp : A + 4194304 ≤ 4611686018427387900) (hf : FarV cv w.heap.size) (hN : NetR w S u N) (hs : Small N) :
    Calls Tryz.prog 156 #[.pointer (some ⟨gc, 0, none⟩), u] w (RetDr w w.heap.size gc cv L (A + 4194304) (IdsOf N)) := by
  have hgc := hc.lt
  have HN := Lib.hid hN
  have HS := Lib.hid hs
  have hnl := hs.1
  obtain ⟨ve, vi, vn, rfl, he, hi, hn⟩ := hN
  obtain ⟨Ae, ce, rfl, -, -, -⟩ := he
  obtain ⟨Ai, ci, rfl, -, -, -⟩ := hi
  obtain ⟨An, cn, rfl, -, -, -⟩ := hn
  obtain ⟨wz, hwz⟩ : ∃ wz, wz = (w.alloc (.cells #[.slice Ae N.ends.length ce, .slice Ai N.ids.length ci, .slice An N.inputs.length cn] 27)).alloc (.cells #[.slice none 0 0, .slice none 0 0, .slice none 0 0] 27) := ⟨_, rfl⟩
  have hzs : wz.heap.size = w.heap.size + 1 + 1 := by rw [hwz]; simp
  have hbz : Below w.heap.size w wz := by rw [hwz]; exact ((Below.refl _ _).alloc (Nat.le_refl _) _).alloc (by simp) _
  have HK : Hid (Blk wz w.heap.size 27 #[.slice Ae N.ends.length ce, .slice Ai N.ids.length ci, .slice An N.inputs.length cn]) := Lib.hid (by rw [hwz]; exact (Blk.new w _ _).alloc _)
  have HR : Hid (Blk wz (w.heap.size + 1) 27 #[.slice none 0 0, .slice none 0 0, .slice none 0 0]) := Lib.hid (by
    rw [hwz]
    have := Blk.new (w.alloc (.cells #[.slice Ae N.ends.length ce, .slice Ai N.ids.length ci, .slice An N.inputs.length cn] 27)) 27 #[.slice none 0 0, .slice none 0 0, .slice none 0 0]
    rwa [World.size_alloc] at this)
  have HC := Lib.hid (hc.keep hbz)
  have HNZ := Lib.hid (HN.out.below hbz)
  have HCB : Hid (CurB w.heap.size gc w wz) := Lib.hid (CurB.of_below hbz (Nat.le_refl _))
  have hF : DF w gc cv wz.heap.size w.heap.size (w.heap.size + 1) := ⟨hgc, hf, by omega, Nat.le_refl _, by omega, by omega⟩
  have HF := Lib.hid hF
  have HZ := Lib.hid hwz
  clear hwz hbz hc hf hF hs HN
  go_enter Tryz.func156, Tryz.ntmps156
  go_upto_region 1 with (fail)
  rw [← HZ.out]
  clear HZ
  have kb := HK.out.cell
  go_upto_region 2 with (go_at_call 165; refine (neOwn_any _ N _ HNZ.out HS.out).mono ?_; rintro e w1 ⟨v1, rfl, ho1, hb1⟩; obtain ⟨E0, e0, E1, e1, E2, e2, rfl⟩ := ho1.parts; have hk1 := HK.out.below hb1; have kb1 := hk1.cell; have kf1 := hk1.free)
  have HD1 := Lib.hid (DS.store HK.out HR.out (by omega) HC.out HCB.out HF.out.far HF.out.gcl (Nat.le_refl _) hb1 ho1)
  unfold set3 at HD1
  clear hk1 kb1 kf1 kb HK HR HC HCB HNZ ho1
  generalize ((w1.setCell ⟨w.heap.size, 0, none⟩ (.slice E0 N.ends.length e0)).setCell ⟨w.heap.size, 1, none⟩ (.slice E1 N.ids.length e1)).setCell ⟨w.heap.size, 2, none⟩ (.slice E2 N.inputs.length e2) = w2 at *
  clear hb1
  have kb2 := HD1.out.bx.cell
  have kf2 := HD1.out.bx.free
  go_upto_region 3 with (fail)
  have HD2 := Lib.hid (HD1.out.setY HF.out (y' := .slice none 0 0) (ids' := []) (World.ownsRow_nil _ _ _ _) (fun g h => by cases h))
  clear kb2 kf2 HD1
  generalize w2.setCell ⟨w.heap.size, 1, none⟩ (.slice none 0 0) = w3 at *
  go_upto_region 4 with (go_at_call 64; refine (one_any _ gc cv L A 2 HD2.out.cu (by omega)).mono ?_; rintro e w4 ⟨b, rfl, hc4, hg4⟩)
  have HD4 := Lib.hid (HD2.out.grown HF.out hg4 hc4)
  clear HD2 hc4 hg4
  have kb4 := HD4.out.bx.cell
  have hz4 := HD4.out.bsz
  have hb4z : wz.heap.size ≤ w4.heap.size := by have := HD4.out.re.lt; omega
  go_upto_region 5 with (go_at_call 167; refine (perm_any _ gc cv L (A + 2) N.ends.length HD4.out.cu (by omega) (by omega)).mono ?_; rintro e w5 ⟨gp, π, rfl, hoπ, hpm, hc5, hg5⟩)
  have HD5 := Lib.hid (HD4.out.grown HF.out hg5 hc5)
  have hplen : π.length = N.ends.length := by rw [hpm.length_eq, upTo_length]
  have HP5 := Lib.hid (hoπ.mono hb4z)
  have HA5 : Hid (Apart (.slice none 0 0) (.slice (some ⟨gp, 0, none⟩) N.ends.length N.ends.length)) := Lib.hid (fun g h => by cases h)
  clear HD4 hc5 hg5 kb4 hpm hoπ hb4z hz4
  go_wp2_with fail
  go_loopw [21] (fun x21 wr => ∃ (ids : List Int) (F1 : Option Addr) (f1 : Nat), ids.length ≤ N.ends.length ∧ x21 = .int .i64 ids.length ∧ DS w gc cv L (A + 2 + 2 * N.ends.length + 2 * ids.length) wz.heap.size w.heap.size (w.heap.size + 1) (.slice E0 N.ends.length e0) (.slice F1 ids.length f1) (.slice E2 N.inputs.length e2) { N with ids := ids } wr ∧
      OwnI wr wz.heap.size (.slice (some ⟨gp, 0, none⟩) N.ends.length N.ends.length) π ∧ Apart (.slice F1 ids.length f1) (.slice (some ⟨gp, 0, none⟩) N.ends.length N.ends.length))
    (fun x21 _ => N.ends.length - (intOf x21).toNat)
  case atStart => exact ⟨[], none, 0, Nat.zero_le _, rfl, HD5.out, HP5.out, HA5.out⟩
  case round =>
    clear HD5 HP5 HA5
    obtain ⟨ids, F1, f1, hk, rfl, hd, hpo, hap⟩ := hrel
    obtain ⟨wr2, rfl⟩ : ∃ wr2, wr2 = wr := ⟨_, rfl⟩
    have HD := Lib.hid hd
    have HP := Lib.hid hpo
    have HA := Lib.hid hap
    have hbz := hd.bsz
    have kb := hd.bx.cell
    have hzz : wz.heap.size ≤ wr2.heap.size := by have := hd.re.lt; omega
    clear hd hpo hap
    by_cases hlt : ids.length < N.ends.length
    · obtain ⟨Ap, cp, e1', -, -, hx⟩ := HP.out.ints
      simp only [Value.slice.injEq] at e1'
      obtain ⟨rfl, -, rfl⟩ := e1'
      obtain ⟨bp, offp, e2', hbp, hcell⟩ := hx (by omega)
      simp only [Option.some.injEq, Addr.mk.injEq, and_true] at e2'
      obtain ⟨rfl, rfl⟩ := e2'
      have cπ := hcell ids.length (by omega)
      rw [Nat.zero_add] at cπ
      have iv1 : (0 : Int) ≤ (ids.length : Int) := by omega
      have iv2 : (ids.length : Int) < (N.ends.length : Int) := by omega
      clear hx hcell
      cases b with
      | true =>
        go_upto_region 9 with fail
        go_upto_region 11 with (at_builtin; go_loud (refine wpList_append_intsL _ rfl (.tmp 27) (.tmp 30) rfl wz.heap.size (.slice F1 ids.length f1) ids rfl (HD.out.alloc _).parts.2.1 _ [_] rfl (IntsR.built _ _ [_] (by simp)) (by simp; omega) (by simp; omega) ?_; intro A1 c1 w6 ho hg hl; have hbx1 := ((KeptBut.of_grown hg (rowType (HD.out.alloc _).parts.2.1)) _ _ _ _ (HD.out.alloc _).bx (by decide)).trans (HD.out.alloc _).bx; have kb1 := Blk.cell hbx1; have kf1 := Blk.free hbx1))
        have HD6 := Lib.hid (DS.appY (N := { N with ids := ids }) (A1 := F1) (c1 := f1) (HD.out.alloc _) HF.out ho hg hl)
        have hpp := (HP.out.below ((Below.refl _ _).alloc (Nat.le_refl _) _)).beside HA.out hg hl
        have HP6 := Lib.hid (hpp.1.but (KeptBut.of_set (p := ⟨w.heap.size, 1, none⟩) hbx1 (.slice A1 (ids.length + 1) c1)) (by decide))
        have HA6 := Lib.hid hpp.2
        clear hbx1 kb1 kf1 ho hg hl hpp kb
        go_wp2_with fail
        go_roundw
        case rel => exact ⟨ids ++ [_], A1, c1, by simp; omega, by simp, by simpa using HD6.out.mono (by simp; omega), HP6.out, by simpa using HA6.out⟩
        case measure => simp [intOf]; omega
      | false =>
        go_upto_region 10 with fail
        have hS0 : (wr2.drew).cell? ⟨w.heap.size, 1, none⟩ = some (.slice F1 ids.length f1) := HD.out.drew.bx.cell 1
        refine wp_region_any (by kernel_rfl) ?_
        try (change wpAny _ _ _ _ _ _ _ (World.drew _))
        simp only [List.size_toArray, List.length_cons, List.length_nil, Array.replicate, List.replicate]
        refine wpAny_take (i := 0) (oi := _) (v := ?_) rfl (by kernel_rfl) (by kernel_rfl) (by kernel_rfl) (fun _ _ _ h => h) (Or.inl ⟨by rfl, ?_⟩) ?_
        case refine_2 => intro w0; go_simp; with_reducible rfl
        try simp only [Act.put, List.getElem_toArray, List.getElem_cons_zero, List.getElem_cons_succ, List.setIfInBounds_toArray, List.set_cons_zero, List.set_cons_succ]
        refine wpAny_take (i := 2) (oi := _) (v := ?_) rfl (by kernel_rfl) (by kernel_rfl) (by kernel_rfl) (fun _ _ _ h => h) (Or.inl ⟨by rfl, ?_⟩) ?_
        case refine_2 => intro w0; go_simp; with_reducible rfl
        try simp only [Act.put, List.getElem_toArray, List.getElem_cons_zero, List.getElem_cons_succ, List.setIfInBounds_toArray, List.set_cons_zero, List.set_cons_succ]
        refine wpAny_take (i := 3) (oi := _) (v := ?_) rfl (by kernel_rfl) (by kernel_rfl) (by kernel_rfl) (fun _ _ _ h => h) (Or.inl ⟨by rfl, ?_⟩) ?_
        case refine_2 => intro w0; go_simp; with_reducible rfl
        try simp only [Act.put, List.getElem_toArray, List.getElem_cons_zero, List.getElem_cons_succ, List.setIfInBounds_toArray, List.set_cons_zero, List.set_cons_succ]
        refine wpAny_take (i := 4) (oi := _) (v := ?_) rfl (by kernel_rfl) (by kernel_rfl) (by kernel_rfl) (fun _ _ _ h => h) (Or.inl ⟨by rfl, ?_⟩) ?_
        case refine_2 => intro w0; go_simp; with_reducible rfl
        try simp only [Act.put, List.getElem_toArray, List.getElem_cons_zero, List.getElem_cons_succ, List.setIfInBounds_toArray, List.set_cons_zero, List.set_cons_succ]
        refine wpAny_take (i := 5) (oi := _) (v := ?_) rfl (by kernel_rfl) (by kernel_rfl) (by kernel_rfl) (fun _ _ _ h => h) (Or.inl ⟨by rfl, ?_⟩) ?_
        case refine_2 => intro w0; go_simp; with_reducible rfl
        try simp only [Act.put, List.getElem_toArray, List.getElem_cons_zero, List.getElem_cons_succ, List.setIfInBounds_toArray, List.set_cons_zero, List.set_cons_succ]
        refine wpAny_of_P (S := fun W => W.cell? ⟨w.heap.size, 1, none⟩ = some (.slice F1 ids.length f1)) (n1 := 10) _ _ _ _ ?_
        refine wpAnyP_take (i := 1) (oi := _) (v := ?_) rfl (by kernel_rfl) (by kernel_rfl) (by kernel_rfl) (by omega) (by kernel_rfl) (fun _ _ _ h => h) (Or.inl ⟨by rfl, ?_⟩) (hS0) ?_
        case refine_2 => intro w0 hS0; obtain h0 := hS0; go_simp; try with_reducible rfl
        try simp only [Act.put, List.getElem_toArray, List.getElem_cons_zero, List.getElem_cons_succ, List.setIfInBounds_toArray, List.set_cons_zero, List.set_cons_succ]
        refine wpAnyP_ready (rs := [6]) (by kernel_rfl) (by simp) (by kernel_rfl) (AllReadyP.cons (o := _) rfl (fun K hK => ?_) AllReadyP.nil)
        go_simp
        go_wp2_with (go_at_call 63; refine (pick_any _ gc cv L (A + 2 + 2 * N.ends.length + 2 * ids.length) 20000 HD.out.drew.cu (by omega)).mono ?_; rintro e w7 ⟨q, rfl, -, hc7, hg7⟩; have HD7 := Lib.hid (HD.out.drew.grown HF.out hg7 hc7); have hS7 : w7.cell? ⟨w.heap.size, 1, none⟩ = some (.slice F1 ids.length f1) := HD7.out.bx.cell 1; have hzz7 : wz.heap.size ≤ w7.heap.size := by { have := hg7.size; simp at this; omega })
        refine hK.out _ _ (hS7) (fun _ => ?_)
        clear hK K
        try simp only [Act.put, List.getElem_toArray, List.getElem_cons_zero, List.getElem_cons_succ, List.setIfInBounds_toArray, List.set_cons_zero, List.set_cons_succ]
        refine wpAnyP_take (i := 7) (oi := _) (v := ?_) rfl (by kernel_rfl) (by kernel_rfl) (by kernel_rfl) (by omega) (by kernel_rfl) (fun _ _ _ h => h) (Or.inl ⟨by rfl, ?_⟩) (hS7) ?_
        case refine_2 => intro w0 hS0; obtain h0 := hS0; go_simp; try with_reducible rfl
        try simp only [Act.put, List.getElem_toArray, List.getElem_cons_zero, List.getElem_cons_succ, List.setIfInBounds_toArray, List.set_cons_zero, List.set_cons_succ]
        refine wpAnyP_ready (rs := [8]) (by kernel_rfl) (by simp) (by kernel_rfl) (AllReadyP.cons (o := _) rfl (fun K hK => ?_) AllReadyP.nil)
        go_simp
        refine hK.out _ _ ((HD7.out.alloc _).bx.cell 1) (fun _ => ?_)
        clear hK K
        try simp only [Act.put, List.getElem_toArray, List.getElem_cons_zero, List.getElem_cons_succ, List.setIfInBounds_toArray, List.set_cons_zero, List.set_cons_succ]
        refine wpAnyP_ready (rs := [9]) (by kernel_rfl) (by simp) (by kernel_rfl) (AllReadyP.cons (o := _) rfl (fun K hK => ?_) AllReadyP.nil)
        (refine step_append_intsL _ rfl (.tmp 34) (.tmp 41) rfl wz.heap.size (.slice F1 ids.length f1) ids (by simp [go_sem]) (HD7.out.alloc _).parts.2.1 _ [_] (by simp [go_sem]) (IntsR.built _ _ [_] (by simp)) (by simp; omega) (by simp; omega) ?_; intro A1 c1 w8 ho hg hl; have hbx1 := ((KeptBut.of_grown hg (rowType (HD7.out.alloc _).parts.2.1)) _ _ _ _ (HD7.out.alloc _).bx (by decide)).trans (HD7.out.alloc _).bx; have kb1 := Blk.cell hbx1; have kf1 := Blk.free hbx1)
        refine hK.out _ _ (kb1 1) (fun _ => ?_)
        clear hK K
        try simp only [Act.put, List.getElem_toArray, List.getElem_cons_zero, List.getElem_cons_succ, List.setIfInBounds_toArray, List.set_cons_zero, List.set_cons_succ]
        refine wpAnyP_go (by kernel_rfl) ?_
        refine wpAny_take (i := 10) (oi := _) (v := ?_) rfl (by kernel_rfl) (by kernel_rfl) (by kernel_rfl) (fun _ _ _ h => h) (Or.inl ⟨by rfl, ?_⟩) ?_
        case refine_2 => intro w0; go_simp; with_reducible rfl
        try simp only [Act.put, List.getElem_toArray, List.getElem_cons_zero, List.getElem_cons_succ, List.setIfInBounds_toArray, List.set_cons_zero, List.set_cons_succ]
        refine wpAny_ready (rs := [11]) (by kernel_rfl) (by simp) (AllReady.cons (o := _) rfl (fun K hK => ?_) AllReady.nil)
        go_simp
        refine hK _ _ ?_
        clear hK K
        refine wpAny_done (by kernel_rfl) ?_ _
        have HD8 := Lib.hid (DS.appY (N := { N with ids := ids }) (A1 := F1) (c1 := f1) (HD7.out.alloc _) HF.out ho hg hl)
        have hpp := (((HP.out.below (Below.refl _ _).drew).grown hg7 (by have := HF.out.gcl; omega)).below ((Below.refl _ _).alloc (Nat.le_refl _) _)).beside HA.out hg hl
        have HP8 := Lib.hid (hpp.1.but (KeptBut.of_set (p := ⟨w.heap.size, 1, none⟩) hbx1 (.slice A1 (ids.length + 1) c1)) (by decide))
        have HA8 := Lib.hid hpp.2
        clear hbx1 kb1 kf1 ho hg hl hpp kb hS0 hS7 hg7 hc7
        go_wp2_with fail
        go_roundw
        case rel => exact ⟨ids ++ [_], A1, c1, by simp; omega, by simp, by simpa using HD8.out.mono (A' := A + 2 + 2 * N.ends.length + 2 * (ids.length + 1)) (by omega), HP8.out, by simpa using HA8.out⟩
        case measure => simp [intOf]; omega
    · have hnl2 : ¬ ((ids.length : Int) < (N.ends.length : Int)) := by omega
      have hle : ids.length = N.ends.length := by omega
      have HLE := Lib.hid hle
      clear hle
      obtain ⟨q1, q2, q3, q4⟩ := HD.out.done HF.out
      have HQ := Lib.hid (And.intro q2 (And.intro q3 q4))
      have hfin := q1
      have kr := HD.out.re.cell
      have fr := HD.out.re.free
      clear q1 q2 q3 q4
      go_wp2_with fail
      unfold set3 at hfin
      exact bodyPost_ret (v := .agg #[.slice E0 N.ends.length e0, .slice F1 ids.length f1, .slice E2 N.inputs.length e2]) (by simp [results, Tryz.results156, go_sem, hfin]) rfl ⟨_, { N with ids := ids }, rfl, HQ.out.1, ⟨rfl, rfl, HLE.out⟩, HQ.out.2.1.mono (by omega), HQ.out.2.2⟩
end Go.Proofs.YtljjbhihllnnaaaGreat
