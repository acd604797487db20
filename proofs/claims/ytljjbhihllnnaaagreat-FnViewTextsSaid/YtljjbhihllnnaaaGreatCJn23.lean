/- Parts of the proof, joined: L1n, Sv1, Sv2. -/
import Derived.Test.YtljjbhihllnnaaaGreatCJn4
import Derived.Test.YtljjbhihllnnaaaGreatCVi2
import Derived.Test.YtljjbhihllnnaaaGreatCJn3
import Derived.Laws.IdiomStrings
import Derived.Laws.Concat
import Derived.Laws.Strings
namespace Go.Proofs.YtljjbhihllnnaaaGreat
open Go.RowKit

set_option maxRecDepth 100000 in
set_option maxHeartbeats 1000000 in
theorem l1Num_dig (n : Nat) (w : World) (hn : n ≤ 9) : Calls Tryz.prog 112 #[.int .i64 (n : Nat)] w (RetV w (.string (strB [dch n]))) := by
  have e1 : (n : Int) < 10 := by omega
  have hd := dch_nat hn
  have hcv : (convert 22 9 (.slice (some ⟨w.heap.size, 0, none⟩) 1 1)).run Tryz.prog (w.alloc (.cells #[.int .u8 (48 + (n : Int))] 5)) = .ok (.string (strB [dch n])) (w.alloc (.cells #[.int .u8 (48 + (n : Int))] 5)) :=
    run_convert_bytes_back _ _ _ _ _ _ [dch n] Tryz.underlying22 Tryz.underlying5 Tryz.underlying9 (fun j hj => by
      obtain rfl : j = 0 := by simpa using hj
      rw [addr_add, (Blk.new w 5 #[.int .u8 (48 + (n : Int))]).cell]
      simp [hd])
  clear hd
  go_enter Tryz.func112, Tryz.ntmps112
  go_wp2_with fail
  go_ret
  exact ⟨rfl, (Below.refl _ _).alloc (Nat.le_refl _) _⟩

theorem head_txt {d i : Nat} : strB [dch d] ++ strB [46] ++ strB [dch i] = strB [dch d, 46, dch i] := by rw [strB_app, strB_app]; rfl
end Go.Proofs.YtljjbhihllnnaaaGreat

namespace Go.Proofs.YtljjbhihllnnaaaGreat
open Go.RowKit
attribute [local go_sem] BW.cell BW.frozen strB_size

/-- the cells of a good network that a node's text is made of -/
theorem good_row {N : Net} (hg : goodB N = true) {v : Nat} (hv : v < N.ends.length) : (gl N.ends v).length ≤ 6 ∧ N.inputs.length = N.ends.length ∧ N.ends.length ≤ 40 ∧ (∃ q : Nat, gi N.inputs v = (q : Int) ∧ q ≤ 9) ∧
    ∀ j, j < (gl N.ends v).length → ∃ u p : Nat, gp (gl N.ends v) j = ((u : Int), (p : Int)) ∧ u < N.ends.length ∧ p ≤ 5 := by
  obtain ⟨h1, -, h3, h4, h5⟩ := goodB_iff.1 hg
  obtain ⟨r1, r2⟩ := h5 v hv
  have h40 := (inB_iff.1 h1).2
  have hin := inB_iff.1 (allB_iff.1 h4 v (by omega))
  refine ⟨r1, h3, by omega, ⟨(gi N.inputs v).toNat, by omega, by omega⟩, fun j hj => ?_⟩
  obtain ⟨e1, e2, -⟩ := r2 j hj
  have e1 := inB_iff.1 e1
  have e2 := inB_iff.1 e2
  have hu : (gp (gl N.ends v) j).1.toNat < N.ends.length := by omega
  have hr := (h5 _ hu).1
  exact ⟨(gp (gl N.ends v) j).1.toNat, (gp (gl N.ends v) j).2.toNat, Prod.ext (by show _ = _; omega) (by show _ = _; omega), hu, by omega⟩
theorem head_ntx {d i : Nat} : strB [dch d] ++ { data := #[46] } ++ strB [dch i] = strB [dch d, 46, dch i] := head_txt

set_option maxRecDepth 100000 in
set_option maxHeartbeats 1000000 in
theorem viHead_any {S : Nat → Prop} (vN : Value) (N : Net) (v : Nat) (w : World) (h : NetR w S vN N) (hg : goodB N = true) (hv : v < N.ends.length) :
    Calls Tryz.prog 111 #[vN, .int .i64 (v : Nat)] w (RetV w (.string (strB (hdT N v)))) := by
  obtain ⟨hd6, hil, hn40, ⟨q, hq, hq9⟩, -⟩ := good_row hg hv
  obtain ⟨ve, vi, vn, rfl, he, hi, hn⟩ := h
  obtain ⟨A1, c1, rfl, -, -, -⟩ := hi
  obtain ⟨A, c, rfl, hnc, hm, hx⟩ := he
  obtain ⟨A2, c2, rfl, hnc2, hm2, hx2⟩ := hn
  obtain ⟨b, off, rfl, -, hc⟩ := hx (by omega)
  obtain ⟨b2, off2, rfl, -, hc2⟩ := hx2 (by omega)
  obtain ⟨u, hu, hur⟩ := hc v hv
  obtain ⟨A3, c3, rfl, -, -, -⟩ := hur
  have ci := hc2 v (by omega)
  rw [hq] at ci
  have hb := lt_of_cell hu
  have hb2 := lt_of_cell ci
  have hbx : Below w.heap.size w (w.alloc (.cells #[.slice (some ⟨b, off, none⟩) N.ends.length c, .slice A1 N.ids.length c1, .slice (some ⟨b2, off2, none⟩) N.inputs.length c2] 27)) := (Below.refl _ _).alloc (Nat.le_refl _) _
  have HBX := Lib.hid hbx
  have d1 := (hbx.cell (p := ⟨b, off + v, none⟩) hb).trans hu
  have d2 := (hbx.cell (p := ⟨b2, off2 + v, none⟩) hb2).trans ci
  have z1 : b < (w.alloc (.cells #[.slice (some ⟨b, off, none⟩) N.ends.length c, .slice A1 N.ids.length c1, .slice (some ⟨b2, off2, none⟩) N.inputs.length c2] 27)).heap.size := by simp; omega
  have z2 : b2 < (w.alloc (.cells #[.slice (some ⟨b, off, none⟩) N.ends.length c, .slice A1 N.ids.length c1, .slice (some ⟨b2, off2, none⟩) N.inputs.length c2] 27)).heap.size := by simp; omega
  have z0 : w.heap.size < (w.alloc (.cells #[.slice (some ⟨b, off, none⟩) N.ends.length c, .slice A1 N.ids.length c1, .slice (some ⟨b2, off2, none⟩) N.inputs.length c2] 27)).heap.size := by simp
  have kb := (Blk.new w 27 #[.slice (some ⟨b, off, none⟩) N.ends.length c, .slice A1 N.ids.length c1, .slice (some ⟨b2, off2, none⟩) N.inputs.length c2]).cell
  have i0 : (0 : Int) ≤ (v : Int) := by omega
  have i1 : (v : Int) < (N.ends.length : Int) := by omega
  have i2 : (v : Int) < (N.inputs.length : Int) := by omega
  have HT : Hid (hdT N v = [dch (gl N.ends v).length, 46, dch q]) := Lib.hid (by rw [hdT, hq]; rfl)
  have hd9 : (gl N.ends v).length ≤ 9 := by omega
  obtain ⟨dg, hdg⟩ : ∃ dg, dg = (gl N.ends v).length := ⟨_, rfl⟩
  rw [← hdg] at d1 HT hd9
  clear hx hx2 hc hc2 hu ci hbx hq hil hdg hd6
  go_enter Tryz.func111, Tryz.ntmps111
  go_wp2_with fail
  generalize w.alloc (.cells #[.slice (some ⟨b, off, none⟩) N.ends.length c, .slice A1 N.ids.length c1, .slice (some ⟨b2, off2, none⟩) N.inputs.length c2] 27) = w0 at *
  refine wp_region_below (by kernel_rfl) (by kernel_rfl) ?_
  repeat (go_big_quiet_step ((go_at_call 112; exact quietB (l1Num_dig _ _ (by omega)))))
  refine wpQuiet_nil ?_
  rintro _ ⟨x, rfl⟩
  have HX := Lib.hid (Below.then_ HBX.out x.h)
  go_wp2_with fail
  go_ret
  exact ⟨by rw [HT.out, ← head_ntx]; rfl, HX.out⟩
end Go.Proofs.YtljjbhihllnnaaaGreat

namespace Go.Proofs.YtljjbhihllnnaaaGreat
open Go.RowKit
attribute [local go_sem] BW.cell BW.frozen strB_size

theorem strT : Nonempty (ElemT Tryz.prog encS 90 9) := ElemT.of (z := .string ⟨#[]⟩) (n := 1) (bytes := 16) Tryz.underlying90 (by kernel_rfl) rfl rfl (by omega)
theorem SlR.oneS {w : World} {g : Nat} {t : TypeId} {x : ByteArray} (h : Blk w g t #[.string x]) : SlR encS w (fun _ => True) (.slice (some ⟨g, 0, none⟩) 1 1) [x] := SlR.one (E := encS) (x := x) h
theorem range_snoc {α : Type} (f : Nat → α) (j : Nat) : (List.range (j + 1)).map f = (List.range j).map f ++ [f j] := by simp [List.range_succ]
theorem vtx_zero (N : Net) (v : Nat) : vtx N 0 v = strB (hdT N v) := by unfold vtx; rw [if_pos (by rw [ntx_zero, hdT_len]; omega), ntx_zero]

theorem empty_size {b : ByteArray} : b.toList.isEmpty = true ↔ b.size = 0 := by
  rw [ByteArray.toList_eq, List.isEmpty_iff_length_eq_zero]
  show b.data.toList.length = 0 ↔ b.data.size = 0
  simp
theorem size_piece {s tv : ByteArray} {c : UInt8} {p : Nat} : (s ++ { data := #[c] } ++ (strB [dch p] ++ { data := #[58] } ++ tv)).size = s.size + 3 + tv.size := by
  have h1 : (strB [dch p]).size = 1 := by rw [strB_size]; rfl
  have h2 : ({ data := #[c] } : ByteArray).size = 1 := rfl
  have h3 : ({ data := #[58] } : ByteArray).size = 1 := rfl
  rw [ByteArray.size_append, ByteArray.size_append, ByteArray.size_append, ByteArray.size_append, h1, h2, h3]
  omega

set_option maxRecDepth 100000 in
set_option maxHeartbeats 4000000 in
theorem viTexts_any {S : Nat → Prop} (vN : Value) (N : Net) (t : Nat) (w : World) (h : NetR w S vN N) (hg : goodB N = true) (ht : t ≤ 1000) (hne : 0 < N.ends.length) :
    Calls Tryz.prog 55 #[vN, .int .i64 (t : Nat)] w (fun e w' => ∃ A c, e = .returned (.slice A N.ends.length c) ∧ OwnG encS 9 w' w.heap.size (.slice A N.ends.length c) ((List.range N.ends.length).map (vtx N t)) ∧ Below w.heap.size w w') := by
  have HNR := Lib.hid h
  have HG := Lib.hid hg
  have hn40 : N.ends.length ≤ 40 := (good_row hg hne).2.2.1
  obtain ⟨ve, vi, vn, rfl, he, hi, hn⟩ := h
  obtain ⟨A1, c1, rfl, -, -, -⟩ := hi
  obtain ⟨A, c, rfl, hnc, hm, hx⟩ := he
  obtain ⟨A2, c2, rfl, hnc2, hm2, -⟩ := hn
  unfold maxLen at hm hm2
  have HX := Lib.hid hx
  have HA0 := Lib.hid ((Below.refl w.heap.size w).alloc (Nat.le_refl _) (.cells #[.slice A N.ends.length c, .slice A1 N.ids.length c1, .slice A2 N.inputs.length c2] 27))
  have HK0 := Lib.hid (Blk.new w 27 #[.slice A N.ends.length c, .slice A1 N.ids.length c1, .slice A2 N.inputs.length c2])
  have hz0 : (w.alloc (.cells #[.slice A N.ends.length c, .slice A1 N.ids.length c1, .slice A2 N.inputs.length c2] 27)).heap.size = w.heap.size + 1 := by simp
  clear hx hg
  go_enter Tryz.func55, Tryz.ntmps55
  go_wp2_with fail
  generalize w.alloc (.cells #[.slice A N.ends.length c, .slice A1 N.ids.length c1, .slice A2 N.inputs.length c2] 27) = w0 at *
  go_loopw [17, 5] (fun x x5 wr => ∃ (j : Nat) (Aa : Option Addr) (ca : Nat), j ≤ N.ends.length ∧ x = .int .i64 j ∧ x5 = .slice Aa j ca ∧ OwnG encS 9 wr (w.heap.size + 1) (.slice Aa j ca) ((List.range j).map (vtx N 0)) ∧
      Blk wr w.heap.size 27 #[.slice A N.ends.length c, .slice A1 N.ids.length c1, .slice A2 N.inputs.length c2] ∧ Below w.heap.size w wr ∧ w.heap.size + 1 ≤ wr.heap.size) (fun x _ _ => N.ends.length - (intOf x).toNat)
  case atStart => exact ⟨0, none, 0, Nat.zero_le _, rfl, rfl, OwnG.nil, HK0.out, HA0.out, by omega⟩
  case round =>
    obtain ⟨j, Aa, ca, hj, rfl, rfl, hown, hkb, hbel, hz⟩ := hrel
    have HOW := Lib.hid hown
    have HKB := Lib.hid hkb
    have HB := Lib.hid hbel
    have kc := hkb.cell
    clear hown hbel hkb
    by_cases hlt : j < N.ends.length
    · have HHD := Lib.hid (fun W (hW : Below w.heap.size w W) => viHead_any _ N j W (HNR.out.below hW) HG.out hlt)
      go_upto_region 6 with (first
        | (go_at_call 111; refine (HHD.out _ HB.out).mono ?_; rintro e w1 ⟨rfl, hb1⟩; have HB1 := Lib.hid (hb1.alloc hb1.size (.cells #[.string (strB (hdT N j))] 9)); clear hb1)
        | (refine wpList_append_G strT (S := fun _ => True) _ rfl (.tmp 20) (.tmp 24) rfl (w.heap.size + 1) (.slice Aa j ca) ((List.range j).map (vtx N 0)) rfl (HOW.out.below HB1.out) _ [strB (hdT N j)] rfl (SlR.oneS (Blk.newAt rfl)) (by simp; omega) (by have := HB1.out.size; omega) ?_; intro A5 c5 w2 ho5 hg5 hl5))
      have HO5 : Hid (OwnG encS 9 w2 (w.heap.size + 1) (.slice A5 (j + 1) c5) ((List.range (j + 1)).map (vtx N 0))) := Lib.hid (by
        rw [range_snoc, vtx_zero]
        simpa using ho5)
      have HB5 : Hid (Below w.heap.size w w2) := Lib.hid ((HB.out.trans (HB1.out.mono (by omega))).grown hg5 (by have := HB1.out.size; omega) (fun k hk => by have := (HOW.out.lt k hk).1; omega))
      have HK5 : Hid (Blk w2 w.heap.size 27 #[.slice A N.ends.length c, .slice A1 N.ids.length c1, .slice A2 N.inputs.length c2]) := Lib.hid ((hg5.block _ (by have := HB1.out.size; omega) (fun e => by have := (HOW.out.lt _ e.symm).1; omega)).trans (HKB.out.below HB1.out))
      have hz5 : w.heap.size + 1 ≤ w2.heap.size := Nat.le_trans (by have := HB1.out.size; omega) hg5.size
      clear ho5 hg5 hl5 HB1
      go_wp2_with fail
      go_roundw
      case rel => exact ⟨j + 1, A5, c5, by omega, by go_num, rfl, HO5.out, HK5.out, HB5.out, hz5⟩
      case measure => simp [intOf]; omega
    · obtain rfl : j = N.ends.length := by omega
      clear kc
      go_wp2_with fail
      go_loopw [1, 5] (fun x1 x5 wr2 => ∃ (k : Nat) (At : Option Addr) (ct : Nat), k ≤ t ∧ x1 = .int .i64 ((t - k : Nat) : Int) ∧ x5 = .slice At N.ends.length ct ∧ OwnG encS 9 wr2 (w.heap.size + 1) (.slice At N.ends.length ct) ((List.range N.ends.length).map (vtx N k)) ∧
          Blk wr2 w.heap.size 27 #[.slice A N.ends.length c, .slice A1 N.ids.length c1, .slice A2 N.inputs.length c2] ∧ Below w.heap.size w wr2 ∧ w.heap.size + 1 ≤ wr2.heap.size) (fun x1 _ _ => (intOf x1).toNat)
      case atStart => exact ⟨0, Aa, ca, Nat.zero_le _, rfl, rfl, HOW.out, HKB.out, HB.out, hz⟩
      case round =>
        obtain ⟨k, At, ct, hk, rfl, rfl, hown, hkb, hbel, hz2⟩ := hrel
        obtain ⟨wr2, rfl⟩ : ∃ wr2, wr2 = wr := ⟨_, rfl⟩
        have HOT := Lib.hid hown
        have HKT := Lib.hid hkb
        have HBT := Lib.hid hbel
        have kc2 := hkb.cell
        clear hown hkb hbel HOW HKB HB
        by_cases hlk : k < t
        · have e1 : (0 : Int) < ((t - k : Nat) : Int) := by omega
          obtain ⟨tk, htk⟩ : ∃ tk : Int, tk = ((t - k : Nat) : Int) := ⟨_, rfl⟩
          have htk2 : 0 < tk ∧ tk ≤ 1000 := by omega
          obtain ⟨htk3, htk4⟩ := htk2
          have HTK := Lib.hid htk
          have LT : Hid (∀ g, (Value.slice At N.ends.length ct).ownBlock = some g → g < wr2.heap.size) := Lib.hid fun g hg => (HOT.out.lt g hg).2
          rw [← htk] at e1 ⊢
          clear htk
          go_wp2_with fail
          clear kc2
          go_loopw [34, 7] (fun x34 x7 wr3 => ∃ (j : Nat) (A7 : Option Addr) (c7 : Nat), j ≤ N.ends.length ∧ x34 = .int .i64 j ∧ x7 = .slice A7 j c7 ∧ OwnG encS 9 wr3 wr2.heap.size (.slice A7 j c7) ((List.range j).map (vtx N (k + 1))) ∧
              OwnG encS 9 wr3 (w.heap.size + 1) (.slice At N.ends.length ct) ((List.range N.ends.length).map (vtx N k)) ∧
              Blk wr3 w.heap.size 27 #[.slice A N.ends.length c, .slice A1 N.ids.length c1, .slice A2 N.inputs.length c2] ∧ Below w.heap.size w wr3 ∧ wr2.heap.size ≤ wr3.heap.size) (fun x34 _ _ => N.ends.length - (intOf x34).toNat)
          case atStart => exact ⟨0, none, 0, Nat.zero_le _, rfl, rfl, OwnG.nil, HOT.out, HKT.out, HBT.out, Nat.le_refl _⟩
          case round =>
            obtain ⟨j, A7, c7, hj, rfl, rfl, hnx, hot, hkb, hbel, hz3⟩ := hrel
            obtain ⟨wr3, rfl⟩ : ∃ wr3, wr3 = wr := ⟨_, rfl⟩
            have HNX := Lib.hid hnx
            have HOT3 := Lib.hid hot
            have HK3 := Lib.hid hkb
            have HB3 := Lib.hid hbel
            have kc3 := hkb.cell
            clear hnx hot hkb hbel HOT HKT HBT
            by_cases hlt : j < N.ends.length
            · obtain ⟨b, off, rfl, -, hc⟩ := HX.out hne
              obtain ⟨u, hu, hur⟩ := hc j hlt
              have HUR := Lib.hid hur
              obtain ⟨Ae, ce, rfl, -, -, -⟩ := hur
              have hbl := lt_of_cell hu
              have cu : wr3.cell? ⟨b, off + j, none⟩ = some (.slice Ae (gl N.ends j).length ce) := (HB3.out.cell (p := ⟨b, off + j, none⟩) hbl).trans hu
              have i0 : (0 : Int) ≤ (j : Int) := by omega
              have i1 : (j : Int) < (N.ends.length : Int) := by omega
              obtain ⟨hd6, -, -, -, hends⟩ := good_row HG.out hlt
              have HEN := Lib.hid hends
              have HHD := Lib.hid (fun W (hW : Below w.heap.size w W) => viHead_any _ N j W (HNR.out.below hW) HG.out hlt)
              obtain ⟨dg, hdg⟩ : ∃ dg, dg = (gl N.ends j).length := ⟨_, rfl⟩
              have HDG := Lib.hid hdg
              rw [← hdg] at cu hd6
              clear hc hu hends hdg
              go_wp2_with (go_at_call 111; refine (HHD.out _ HB3.out).mono ?_; rintro e w4 ⟨rfl, hb4⟩; have HB4 := Lib.hid hb4; clear hb4 cu kc3)
              go_loopw [44, 10, 11] (fun x44 x10 x11 wr4 => ∃ (i : Nat) (s : ByteArray) (lg : Bool), i ≤ dg ∧ x44 = .int .i64 i ∧ x10 = .string s ∧ x11 = .bool lg ∧ (lg = true → 4000 < (ntx N (k + 1) j).length) ∧ (lg = false → s = strB (hdT N j ++ etx (ntx N k) 40 ((gl N.ends j).take i))) ∧
                  s.size ≤ 3 + i * 4003 ∧ Below wr3.heap.size wr3 wr4) (fun x44 _ _ _ => dg - (intOf x44).toNat)
              case atStart => exact ⟨0, strB (hdT N j), false, Nat.zero_le _, rfl, rfl, rfl, (fun h => by cases h), (fun _ => by simp [etx]), by rw [strB_size, hdT_len]; omega, HB4.out⟩
              case round =>
                obtain ⟨i, s, lg, hi, rfl, rfl, rfl, hl1, hl2, hss, hbel4⟩ := hrel
                obtain ⟨wr4, rfl⟩ : ∃ wr4, wr4 = wr := ⟨_, rfl⟩
                have HL1 := Lib.hid hl1
                have HL2 := Lib.hid hl2
                have HB5 := Lib.hid hbel4
                clear hl1 hl2 hbel4 HB4
                by_cases hli : i < dg
                · obtain ⟨un, pn, hup, hun, hpn⟩ := HEN.out i (by have := HDG.out; omega)
                  obtain ⟨Ax, cx, hv, -, -, hex⟩ := HUR.out
                  cases hv
                  obtain ⟨be, offe, rfl, -, hce⟩ := hex (by have := HDG.out; omega)
                  obtain ⟨d1, d2⟩ := hce i (by have := HDG.out; omega)
                  rw [hup] at d1 d2
                  have hbe := lt_of_cell d1
                  have hw4 : Below w.heap.size w wr4 := HB3.out.trans (HB5.out.mono (by have := HB3.out.size; omega))
                  have q1 : wr4.cell? ⟨be, offe + i * 2, none⟩ = some (.int .i64 (un : Nat)) := (hw4.cell (p := ⟨be, offe + i * 2, none⟩) hbe).trans d1
                  have q2 : wr4.cell? ⟨be, offe + i * 2 + 1, none⟩ = some (.int .i64 (pn : Nat)) := (hw4.cell (p := ⟨be, offe + i * 2 + 1, none⟩) hbe).trans d2
                  obtain ⟨gt, ctt, hvt, -, hgt, -, -⟩ := (HOT3.out.below HB5.out).addr (by simp; omega)
                  simp only [Value.slice.injEq, List.length_map, List.length_range, true_and] at hvt
                  obtain ⟨rfl, rfl⟩ := hvt
                  have q3 : wr4.cell? ⟨gt, un, none⟩ = some (.string (vtx N k un)) := by
                    have := ((HOT3.out.below HB5.out).at_ (j := un) (by simp; omega)).1 0 (by decide)
                    rw [show un * encS.k + 0 = un by show un * 1 + 0 = un; omega] at this
                    rw [this]
                    simp [encS, ga, hun]
                  have HVL : Hid (vtx N k un = if (ntx N k un).length ≤ 4000 then strB (ntx N k un) else strB []) := Lib.hid rfl
                  have htv : (vtx N k un).size ≤ 4000 := by unfold vtx; split; rw [strB_size]; assumption; simp [strB_size]
                  have HCH := Lib.hid (ntx_child (N := N) (t := k) (v := j) (j := i) (by have := HDG.out; omega))
                  have HSN := Lib.hid (etx_snoc (ntx N k) (es := gl N.ends j) (s := 40) (j := i) (by have := HDG.out; omega))
                  rw [hup] at HCH HSN
                  simp only [Int.toNat_natCast] at HCH HSN
                  have HEM : Hid ((vtx N k un).size = 0 ↔ 4000 < (ntx N k un).length) := Lib.hid vtx_empty
                  generalize vtx N k un = tv at q3 HVL htv HEM
                  have hs2 : s.size ≤ 30000 := by omega
                  have hpb : pn ≤ 9 := by omega
                  have HW4 := Lib.hid hw4
                  have HBE := Lib.hid ((Below.refl wr4.heap.size wr4).alloc (Nat.le_refl _) (.cells #[.int .i64 (un : Nat), .int .i64 (pn : Nat)] 38))
                  have kE := (Blk.new wr4 38 #[.int .i64 (un : Nat), .int .i64 (pn : Nat)]).cell
                  have q4 := (HBE.out.cell (p := ⟨gt, un, none⟩) hgt).trans q3
                  have zE : wr4.heap.size < (wr4.alloc (.cells #[.int .i64 (un : Nat), .int .i64 (pn : Nat)] 38)).heap.size := by simp
                  have zT : gt < (wr4.alloc (.cells #[.int .i64 (un : Nat), .int .i64 (pn : Nat)] 38)).heap.size := by simp; omega
                  have j0 : (0 : Int) ≤ (i : Int) := by omega
                  have j1 : (i : Int) < (dg : Int) := by omega
                  have u0 : (0 : Int) ≤ (un : Int) := by omega
                  have u1 : (un : Int) < (N.ends.length : Int) := by omega
                  clear hup hce hex d1 d2 q3 hw4
                  by_cases hi0 : i = 0
                  all_goals
                    try have e3 : ((i : Int) == 0) = true := by simp [hi0]
                    try have e3 : ((i : Int) == 0) = false := by simp [hi0]
                    have HI0 := Lib.hid hi0
                    clear hi0
                    go_wp2_with fail
                    generalize wr4.alloc (.cells #[.int .i64 (un : Nat), .int .i64 (pn : Nat)] 38) = wE at *
                    refine wp_region_below (by kernel_rfl) (by kernel_rfl) ?_
                    repeat (go_big_quiet_step ((go_at_call 112; exact quietB (l1Num_dig _ _ (by omega)))))
                    refine wpQuiet_nil ?_
                    rintro _ ⟨x, rfl⟩
                    have HXB : Hid (Below wr3.heap.size wr3 x.wd) := Lib.hid (HB5.out.trans ((HBE.out.trans (x.h.mono HBE.out.size)).mono HB5.out.size))
                    cases lg with
                    | true =>
                      have HLT := Lib.hid (HL1.out rfl)
                      go_wp2_with fail
                      go_roundw
                      case rel => exact ⟨i + 1, _, true, by omega, by go_num, rfl, rfl, fun _ => HLT.out, (fun h => by cases h), by rw [size_piece]; omega, HXB.out⟩
                      case measure => simp [intOf]; omega
                    | false =>
                      have HS0 := Lib.hid (HL2.out rfl)
                      go_wp2_with fail
                      go_roundw
                      case rel =>
                        refine ⟨i + 1, _, tv.toList.isEmpty, by omega, by go_num, rfl, rfl, (fun h => ?_), (fun h => ?_), by rw [size_piece]; omega, HXB.out⟩
                        · have := HEM.out.1 (empty_size.1 h)
                          have := HCH.out
                          omega
                        · have h0 : ¬ tv.size = 0 := fun e => by rw [empty_size.2 e] at h; cases h
                          have h1 : (ntx N k un).length ≤ 4000 := by
                            rcases Nat.lt_or_ge 4000 (ntx N k un).length with h2 | h2
                            · exact absurd (HEM.out.2 h2) h0
                            · exact h2
                          have h3 : tv = strB (ntx N k un) := by rw [HVL.out, if_pos h1]
                          rw [HS0.out, h3, HSN.out]
                          apply bytes_ext
                          simp [strB, HI0.out]
                      case measure => simp [intOf]; omega
                · obtain rfl : i = dg := by omega
                  have htk0 : (gl N.ends j).take i = gl N.ends j := by rw [HDG.out]; exact List.take_length
                  have FIN := Lib.hid (show ∀ (X : ByteArray) (A5 : Option Addr) (c5 : Nat) (w5 : World), vtx N (k + 1) j = X →
                      OwnG encS 9 w5 wr2.heap.size (.slice A5 (j + 1) c5) ((List.range j).map (vtx N (k + 1)) ++ [X]) →
                      (wr4.alloc (.cells #[.string X] 9)).grownBy w5 (Value.slice A7 j c7).ownBlock →
                      OwnG encS 9 w5 wr2.heap.size (.slice A5 (j + 1) c5) ((List.range (j + 1)).map (vtx N (k + 1))) ∧
                      OwnG encS 9 w5 (w.heap.size + 1) (.slice At N.ends.length ct) ((List.range N.ends.length).map (vtx N k)) ∧
                      Blk w5 w.heap.size 27 #[.slice (some ⟨b, off, none⟩) N.ends.length c, .slice A1 N.ids.length c1, .slice A2 N.inputs.length c2] ∧ Below w.heap.size w w5 ∧ wr2.heap.size ≤ w5.heap.size by
                    intro X A5 c5 w5 hX ho5 hg5
                    have hbx := HB5.out.alloc HB5.out.size (.cells #[.string X] 9)
                    have hl7 := fun g hg => (HNX.out.lt g hg).1
                    have hz4 := hbx.size
                    have hz5 := hg5.size
                    refine ⟨by rw [range_snoc, hX]; exact ho5, ?_, ?_, ?_, by omega⟩
                    · exact (HOT3.out.below hbx).keepB fun b hv => hg5.block b (by have := (HOT3.out.lt b hv).2; omega) (fun e => by have := hl7 b e.symm; have := LT.out b hv; omega)
                    · exact (hg5.block _ (by have := HK3.out.lt; omega) (fun e => by have := hl7 _ e.symm; omega)).trans (HK3.out.below hbx)
                    · exact (HB3.out.trans (hbx.mono (by have := HB3.out.size; omega))).grown hg5 (by have := HB3.out.size; omega) (fun g hg => by have := hl7 g hg; omega))
                  have hz4 := HB5.out.size
                  by_cases hd0 : i = 0
                  · have hl0 : gl N.ends j = [] := List.eq_nil_of_length_eq_zero (by have := HDG.out; omega)
                    have hN : ntx N (k + 1) j = hdT N j := by rw [ntx_succ, if_pos hl0, List.append_nil]
                    have hlg : lg = false := by
                      cases lg with
                      | true => have := HL1.out rfl; rw [hN, hdT_len] at this; omega
                      | false => rfl
                    subst hlg
                    have hs := HL2.out rfl
                    have hv : vtx N (k + 1) j = s := by unfold vtx; rw [hN, if_pos (by rw [hdT_len]; omega), hs, hl0]; simp [etx]
                    have HV := Lib.hid hv
                    have hs3 : s.size = 3 := by rw [hs, hl0, strB_size]; simp [etx, hdT_len]
                    have g0 : ¬ (0 : Int) < (i : Int) := by omega
                    have g1 : ¬ (4000 : Int) < (s.size : Int) := by omega
                    clear hN hl0 hs hv htk0
                    go_upto_region 28 with (refine wpList_append_G strT (S := fun _ => True) _ rfl (.tmp 88) (.tmp 90) rfl wr2.heap.size (.slice A7 j c7) ((List.range j).map (vtx N (k + 1))) rfl (HNX.out.below (HB5.out.alloc HB5.out.size _)) _ [s] rfl (SlR.oneS (Blk.newAt rfl)) (by simp; omega) (by simp; omega) ?_; intro A5 c5 w5 ho5 hg5 hl5)
                    obtain ⟨f1, f2, f3, f4, f5⟩ := FIN.out _ A5 c5 w5 HV.out (by simpa using ho5) hg5
                    have F1 := Lib.hid f1
                    have F2 := Lib.hid f2
                    have F3 := Lib.hid f3
                    have F4 := Lib.hid f4
                    clear f1 f2 f3 f4 ho5 hg5 hl5
                    go_wp2_with fail
                    go_roundw
                    case rel => exact ⟨j + 1, A5, c5, by omega, by go_num, rfl, F1.out, F2.out, F3.out, F4.out, f5⟩
                    case measure => simp [intOf]; omega
                  · have hl0 : gl N.ends j ≠ [] := fun e => hd0 (by rw [HDG.out, e]; rfl)
                    have hN : ntx N (k + 1) j = hdT N j ++ (etx (ntx N k) 40 (gl N.ends j) ++ [41]) := by rw [ntx_succ, if_neg hl0]
                    have g0 : (0 : Int) < (i : Int) := by omega
                    cases lg with
                    | true =>
                      have h4 := HL1.out rfl
                      have HV := Lib.hid (show vtx N (k + 1) j = { data := #[] } by unfold vtx; rw [if_neg (by omega)]; rfl)
                      clear hl0 hN h4 hd0 htk0
                      go_upto_region 28 with (refine wpList_append_G strT (S := fun _ => True) _ rfl (.tmp 88) (.tmp 90) rfl wr2.heap.size (.slice A7 j c7) ((List.range j).map (vtx N (k + 1))) rfl (HNX.out.below (HB5.out.alloc HB5.out.size _)) _ [({ data := #[] } : ByteArray)] rfl (SlR.oneS (Blk.newAt rfl)) (by simp; omega) (by simp; omega) ?_; intro A5 c5 w5 ho5 hg5 hl5)
                      obtain ⟨f1, f2, f3, f4, f5⟩ := FIN.out _ A5 c5 w5 HV.out (by simpa using ho5) hg5
                      have F1 := Lib.hid f1
                      have F2 := Lib.hid f2
                      have F3 := Lib.hid f3
                      have F4 := Lib.hid f4
                      clear f1 f2 f3 f4 ho5 hg5 hl5
                      go_wp2_with fail
                      go_roundw
                      case rel => exact ⟨j + 1, A5, c5, by omega, by go_num, rfl, F1.out, F2.out, F3.out, F4.out, f5⟩
                      case measure => simp [intOf]; omega
                    | false =>
                      have hs := HL2.out rfl
                      rw [htk0] at hs
                      have hs4 : s ++ { data := #[41] } = strB (ntx N (k + 1) j) := by rw [hs, hN]; apply bytes_ext; simp [strB]
                      have hs5 : (s ++ { data := #[41] }).size = (ntx N (k + 1) j).length := by rw [hs4, strB_size]
                      have hs6 : (s ++ { data := #[41] }).size = s.size + 1 := by rw [ByteArray.size_append]; rfl
                      by_cases hlen : (ntx N (k + 1) j).length ≤ 4000
                      · have HV := Lib.hid (show vtx N (k + 1) j = s ++ { data := #[41] } by unfold vtx; rw [if_pos hlen, hs4])
                        have g1 : ¬ (4000 : Int) < (s.size : Int) + 1 := by omega
                        clear hl0 hN hd0 htk0 hs hs4 hs5 hs6 hlen
                        go_upto_region 28 with (refine wpList_append_G strT (S := fun _ => True) _ rfl (.tmp 88) (.tmp 90) rfl wr2.heap.size (.slice A7 j c7) ((List.range j).map (vtx N (k + 1))) rfl (HNX.out.below (HB5.out.alloc HB5.out.size _)) _ [s ++ ({ data := #[41] } : ByteArray)] rfl (SlR.oneS (Blk.newAt rfl)) (by simp; omega) (by simp; omega) ?_; intro A5 c5 w5 ho5 hg5 hl5)
                        obtain ⟨f1, f2, f3, f4, f5⟩ := FIN.out _ A5 c5 w5 HV.out (by simpa using ho5) hg5
                        have F1 := Lib.hid f1
                        have F2 := Lib.hid f2
                        have F3 := Lib.hid f3
                        have F4 := Lib.hid f4
                        clear f1 f2 f3 f4 ho5 hg5 hl5
                        go_wp2_with fail
                        go_roundw
                        case rel => exact ⟨j + 1, A5, c5, by omega, by go_num, rfl, F1.out, F2.out, F3.out, F4.out, f5⟩
                        case measure => simp [intOf]; omega
                      · have HV := Lib.hid (show vtx N (k + 1) j = { data := #[] } by unfold vtx; rw [if_neg hlen]; rfl)
                        have g1 : (4000 : Int) < (s.size : Int) + 1 := by omega
                        clear hl0 hN hd0 htk0 hs hs4 hs5 hs6 hlen
                        go_upto_region 28 with (refine wpList_append_G strT (S := fun _ => True) _ rfl (.tmp 88) (.tmp 90) rfl wr2.heap.size (.slice A7 j c7) ((List.range j).map (vtx N (k + 1))) rfl (HNX.out.below (HB5.out.alloc HB5.out.size _)) _ [({ data := #[] } : ByteArray)] rfl (SlR.oneS (Blk.newAt rfl)) (by simp; omega) (by simp; omega) ?_; intro A5 c5 w5 ho5 hg5 hl5)
                        obtain ⟨f1, f2, f3, f4, f5⟩ := FIN.out _ A5 c5 w5 HV.out (by simpa using ho5) hg5
                        have F1 := Lib.hid f1
                        have F2 := Lib.hid f2
                        have F3 := Lib.hid f3
                        have F4 := Lib.hid f4
                        clear f1 f2 f3 f4 ho5 hg5 hl5
                        go_wp2_with fail
                        go_roundw
                        case rel => exact ⟨j + 1, A5, c5, by omega, by go_num, rfl, F1.out, F2.out, F3.out, F4.out, f5⟩
                        case measure => simp [intOf]; omega
            · obtain rfl : j = N.ends.length := by omega
              go_wp2_with fail
              go_roundw
              case rel => exact ⟨k + 1, A7, c7, by omega, congrArg (Value.int .i64) (by have := HTK.out; omega), rfl, HNX.out.mono (by omega), HK3.out, HB3.out, by omega⟩
              case measure => have := HTK.out; simp [intOf]; omega
        · obtain rfl : k = t := by omega
          have e1 : ((k - k : Nat) : Int) = 0 := by omega
          rw [e1]
          go_wp2_with fail
          go_ret
          exact ⟨At, ct, rfl, HOT.out.mono (by omega), HBT.out⟩
end Go.Proofs.YtljjbhihllnnaaaGreat
