/- Parts of the proof, joined: Pn5, Pn7, Pn8. -/
import Derived.Test.YtkbhbbehidhknaaCJn18
import Derived.Test.YtkbhbbehidhknaaCJn23
import Derived.Test.YtkbhbbehidhknaaCGt3
import Derived.Test.YtkbhbbehidhknaaCJn15
import Derived.Test.YtkbhbbehidhknaaCJn6
import Derived.Test.YtkbhbbehidhknaaCNx2
import Derived.Test.YtkbhbbehidhknaaCJn10
import Derived.Test.YtkbhbbehidhknaaCPn6
namespace Go.Proofs.Ytkbhbbehidhknaa
open Go.RowKit

theorem addOk_eq (N : Net) (v x : Int) : addOk N v x = (goodB N && (inB v 0 ((N.ends.length : Int) - 1) && (inB x 0 ((N.ends.length : Int) - 1) && goodB (joinN N v.toNat x.toNat)))) := by
  unfold addOk nodeB
  simp [Bool.and_assoc]
theorem Small.fits {N : Net} (h : Small N) : Fits N := ⟨by have := h.1; omega, fun i hi => by have := h.2.1 i hi; omega, by have := h.2.2.1; omega, by have := h.2.2.2; omega⟩
set_option maxRecDepth 100000 in
set_option maxHeartbeats 2000000 in
theorem AddEdge_any {S : Nat → Prop} (u : Value) (N : Net) (v x : Int) (w : World) (h : NetR w S u N) (hs : Small N) :
    Calls Try.prog 6 #[u, .int .i64 v, .int .i64 x] w (RetNO w (joinN N v.toNat x.toNat) (addOk N v x)) := by
  have hsl := hs.1
  have hsi := hs.2.2.1
  have HS := Lib.hid hs
  have HN := Lib.hid h
  obtain ⟨ve, vi, vn, rfl, he, hi, hn⟩ := h
  obtain ⟨A, c, rfl, -, hmc, hx⟩ := he
  obtain ⟨A1, c1, rfl, -, -, -⟩ := hi
  obtain ⟨A2, c2, rfl, -, -, -⟩ := hn
  unfold maxLen at hmc
  have HX := Lib.hid hx
  clear hx
  obtain ⟨wz, hwz⟩ : ∃ wz, wz = ((w.alloc (.cells #[.slice A N.ends.length c, .slice A1 N.ids.length c1, .slice A2 N.inputs.length c2] 27)).alloc (.cells #[.slice none 0 0, .slice none 0 0, .slice none 0 0] 27)) := ⟨_, rfl⟩
  have hzs : wz.heap.size = w.heap.size + 2 := by rw [hwz]; simp
  have hbz : Below w.heap.size w wz := by rw [hwz]; exact (((Below.refl _ _).alloc (by simp) _).alloc (by simp) _)
  have HK : Hid (Blk wz w.heap.size 27 #[.slice A N.ends.length c, .slice A1 N.ids.length c1, .slice A2 N.inputs.length c2]) := Lib.hid (by
    rw [hwz]
    have := ((Blk.new w 27 #[.slice A N.ends.length c, .slice A1 N.ids.length c1, .slice A2 N.inputs.length c2]).alloc (.cells #[.slice none 0 0, .slice none 0 0, .slice none 0 0] 27))
    simpa using this)
  have HR : Hid (Blk wz (w.heap.size + 1) 27 #[.slice none 0 0, .slice none 0 0, .slice none 0 0]) := Lib.hid (by
    rw [hwz]
    have := (Blk.new (w.alloc (.cells #[.slice A N.ends.length c, .slice A1 N.ids.length c1, .slice A2 N.inputs.length c2] 27)) 27 #[.slice none 0 0, .slice none 0 0, .slice none 0 0])
    simpa using this)
  have HB0 := Lib.hid hbz
  have HZ := Lib.hid hwz
  have CN := Lib.hid (fun W (hW : Below wz.heap.size wz W) => IsNetwork_any _ N W ((HN.out.below HB0.out).below hW) (by omega))
  have CV := Lib.hid (fun W => hasNode_any A N.ends.length c (.slice A1 N.ids.length c1) (.slice A2 N.inputs.length c2) v W (by omega))
  have CX := Lib.hid (fun W => hasNode_any A N.ends.length c (.slice A1 N.ids.length c1) (.slice A2 N.inputs.length c2) x W (by omega))
  have HO := Lib.hid (addOk_eq N v x)
  obtain ⟨g1, hg1⟩ : ∃ g, g = goodB N := ⟨_, rfl⟩
  obtain ⟨g2, hg2⟩ : ∃ g, g = inB v 0 ((N.ends.length : Int) - 1) := ⟨_, rfl⟩
  obtain ⟨g3, hg3⟩ : ∃ g, g = inB x 0 ((N.ends.length : Int) - 1) := ⟨_, rfl⟩
  rw [← hg1, ← hg2, ← hg3] at HO
  rw [← hg1] at CN
  rw [← hg2] at CV
  rw [← hg3] at CX
  have HG2 := Lib.hid hg2
  have HG3 := Lib.hid hg3
  clear hwz hbz hg1 hg2 hg3 hs
  go_enter Try.func6, Try.ntmps6
  go_upto_region 1 with fail
  rw [← HZ.out]
  clear HZ
  have ka := HK.out.cell
  cases g1 with
  | false =>
    go_upto_region 2 with (go_at_call 21; refine (CN.out wz (Below.refl _ _)).mono ?_; rintro e w1 ⟨rfl, hb1⟩; have HB1 := Lib.hid hb1; have kb1 := (HK.out.below hb1).cell; clear hb1)
    have HRr := Lib.hid (HR.out.below HB1.out)
    have hc := (set3_blk (x := .slice none 0 0) (y := .slice none 0 0) (z := .slice none 0 0) HRr.out).cell
    unfold set3 at hc
    have kc := HRr.out.cell
    have kf := HRr.out.free
    have HB9 := Lib.hid (set3_below (p := w.heap.size + 1) (Below.then_ HB0.out HB1.out) (by omega) (.slice none 0 0) (.slice none 0 0) (.slice none 0 0))
    go_wp2_with fail
    obtain ⟨s0, s1, s2⟩ := res3 (x := .slice none 0 0) (y := .slice none 0 0) (z := .slice none 0 0) HRr.out
    exact bodyPost_ret (v := .tuple #[zeroNet, .bool false]) (by simp [results, Try.results6, go_sem, hc, s0, s1, s2, zeroNet]) rfl ⟨HB9.out, .inr ⟨by rw [HO.out]; rfl, rfl⟩⟩
  | true =>
  cases g2 with
  | false =>
    go_upto_region 2 with (first | (go_at_call 22; refine (CV.out w1).mono ?_; rintro e w2 ⟨rfl, hb2⟩; have HB2 := Lib.hid (Below.then_ HB1.out hb2); have kb2 := (HK.out.below HB2.out).cell; clear hb2) | (go_at_call 21; refine (CN.out wz (Below.refl _ _)).mono ?_; rintro e w1 ⟨rfl, hb1⟩; have HB1 := Lib.hid hb1; have kb1 := (HK.out.below hb1).cell; clear hb1))
    have HRr := Lib.hid (HR.out.below HB2.out)
    have hc := (set3_blk (x := .slice none 0 0) (y := .slice none 0 0) (z := .slice none 0 0) HRr.out).cell
    unfold set3 at hc
    have kc := HRr.out.cell
    have kf := HRr.out.free
    have HB9 := Lib.hid (set3_below (p := w.heap.size + 1) (Below.then_ HB0.out HB2.out) (by omega) (.slice none 0 0) (.slice none 0 0) (.slice none 0 0))
    go_wp2_with fail
    obtain ⟨s0, s1, s2⟩ := res3 (x := .slice none 0 0) (y := .slice none 0 0) (z := .slice none 0 0) HRr.out
    exact bodyPost_ret (v := .tuple #[zeroNet, .bool false]) (by simp [results, Try.results6, go_sem, hc, s0, s1, s2, zeroNet]) rfl ⟨HB9.out, .inr ⟨by rw [HO.out]; rfl, rfl⟩⟩
  | true =>
  cases g3 with
  | false =>
    go_upto_region 2 with (first | (go_at_call 22; refine (CX.out w2).mono ?_; rintro e w3 ⟨rfl, hb3⟩; have HB3 := Lib.hid (Below.then_ HB2.out hb3); have kb3 := (HK.out.below HB3.out).cell; clear hb3) | (go_at_call 22; refine (CV.out w1).mono ?_; rintro e w2 ⟨rfl, hb2⟩; have HB2 := Lib.hid (Below.then_ HB1.out hb2); have kb2 := (HK.out.below HB2.out).cell; clear hb2) | (go_at_call 21; refine (CN.out wz (Below.refl _ _)).mono ?_; rintro e w1 ⟨rfl, hb1⟩; have HB1 := Lib.hid hb1; have kb1 := (HK.out.below hb1).cell; clear hb1))
    have HRr := Lib.hid (HR.out.below HB3.out)
    have hc := (set3_blk (x := .slice none 0 0) (y := .slice none 0 0) (z := .slice none 0 0) HRr.out).cell
    unfold set3 at hc
    have kc := HRr.out.cell
    have kf := HRr.out.free
    have HB9 := Lib.hid (set3_below (p := w.heap.size + 1) (Below.then_ HB0.out HB3.out) (by omega) (.slice none 0 0) (.slice none 0 0) (.slice none 0 0))
    go_wp2_with fail
    obtain ⟨s0, s1, s2⟩ := res3 (x := .slice none 0 0) (y := .slice none 0 0) (z := .slice none 0 0) HRr.out
    exact bodyPost_ret (v := .tuple #[zeroNet, .bool false]) (by simp [results, Try.results6, go_sem, hc, s0, s1, s2, zeroNet]) rfl ⟨HB9.out, .inr ⟨by rw [HO.out]; rfl, rfl⟩⟩
  | true =>
    obtain ⟨a, rfl, ha⟩ := inB_nat HG2.out.symm
    obtain ⟨b, rfl, hb⟩ := inB_nat HG3.out.symm
    clear HG2 HG3
    rw [Int.toNat_natCast, Int.toNat_natCast] at *
    go_upto_region 3 with (first | (go_at_call 22; refine (CX.out w2).mono ?_; rintro e w3 ⟨rfl, hb3⟩; have HB3 := Lib.hid (Below.then_ HB2.out hb3); have kb3 := (HK.out.below HB3.out).cell; clear hb3) | (go_at_call 22; refine (CV.out w1).mono ?_; rintro e w2 ⟨rfl, hb2⟩; have HB2 := Lib.hid (Below.then_ HB1.out hb2); have kb2 := (HK.out.below HB2.out).cell; clear hb2) | (go_at_call 21; refine (CN.out wz (Below.refl _ _)).mono ?_; rintro e w1 ⟨rfl, hb1⟩; have HB1 := Lib.hid hb1; have kb1 := (HK.out.below hb1).cell; clear hb1))
    clear ka kb1 kb2
    go_upto_region 4 with (go_at_call 23; refine (copyNetwork_any _ N _ ((HN.out.below HB0.out).below HB3.out) HS.out.fits).mono ?_; rintro e w4 ⟨v4, rfl, ho4, hb4⟩; obtain ⟨E0, e0, E1, e1, E2, e2, rfl⟩ := ho4.parts)
    have hz3 := HB3.out.size
    have hal : Below w4.heap.size w4 (w4.alloc (.cells #[.slice E0 N.ends.length e0, .slice E1 N.ids.length e1, .slice E2 N.inputs.length e2] 27)) := (Below.refl _ _).alloc (Nat.le_refl _) _
    have HB4 := Lib.hid (Below.then_ (Below.then_ (Below.then_ HB0.out HB3.out) hb4) hal)
    have HR4 := Lib.hid (((HR.out.below HB3.out).below hb4).below hal)
    have HN4 := Lib.hid (NB.made ho4)
    have hz4 := hb4.size
    have hza : w4.heap.size + 1 = (w4.alloc (.cells #[.slice E0 N.ends.length e0, .slice E1 N.ids.length e1, .slice E2 N.inputs.length e2] 27)).heap.size := by simp
    obtain ⟨g, hg⟩ : ∃ g, g = w4.heap.size := ⟨_, rfl⟩
    rw [← hg] at HN4 ⊢
    generalize w4.alloc (.cells #[.slice E0 N.ends.length e0, .slice E1 N.ids.length e1, .slice E2 N.inputs.length e2] 27) = w5 at *
    have hz5 : w3.heap.size ≤ w5.heap.size := by omega
    clear hg hza hal hb4 ho4 kb3 HR HK HB3
    go_upto_region 5 with (go_at_call 24; refine (connect_any w5 w3.heap.size g a b _ _ _ N HN4.out hz5 HS.out ha hb).mono ?_; rintro e w6 ⟨rfl, hn6, hl6⟩)
    have HN6 := Lib.hid hn6
    have HB6 := Lib.hid (belowLow HB4.out hl6 (by omega))
    have HR6 : Hid (Blk w6 (w.heap.size + 1) 27 #[.slice none 0 0, .slice none 0 0, .slice none 0 0]) := Lib.hid ((hl6.block (w.heap.size + 1) (by omega)).trans HR4.out)
    have CI := Lib.hid (network_any (S := fun _ => True) _ (joinN N a b) w6 (hn6.ow.net (fun _ _ _ => trivial)) (by show N.ids.length ≤ _; omega))
    obtain ⟨g4, hg4⟩ : ∃ g4, g4 = goodB (joinN N a b) := ⟨_, rfl⟩
    unfold RetIf at CI
    rw [← hg4] at CI HO
    have kb6 := hn6.bx.cell
    clear hg4 hn6 hl6 HN4 HB4 HR4
    cases g4 with
    | false =>
      go_wp2_with (go_at_call 25; refine CI.out.mono ?_; rintro e w7 ⟨hb7, rfl⟩; have HRr := Lib.hid (HR6.out.below hb7); have hc := (set3_blk (x := .slice none 0 0) (y := .slice none 0 0) (z := .slice none 0 0) HRr.out).cell; have kc := HRr.out.cell; have kf := HRr.out.free; have HB9 := Lib.hid (set3_below (p := w.heap.size + 1) (Below.then_ HB6.out hb7) (by omega) (.slice none 0 0) (.slice none 0 0) (.slice none 0 0)); clear hb7 kb6)
      obtain ⟨s0, s1, s2⟩ := res3 (x := .slice none 0 0) (y := .slice none 0 0) (z := .slice none 0 0) HRr.out
      unfold set3 at hc
      exact bodyPost_ret (v := .tuple #[zeroNet, .bool false]) (by simp [results, Try.results6, go_sem, hc, s0, s1, s2, zeroNet]) rfl ⟨HB9.out, .inr ⟨by rw [HO.out]; rfl, rfl⟩⟩
    | true =>
      go_wp2_with (go_at_call 25; refine CI.out.mono ?_; rintro e w7 ⟨hb7, rfl⟩; have HRr := Lib.hid (HR6.out.below hb7); obtain ⟨q1, q2, q3⟩ := resStoreT HRr.out (by omega) (Below.then_ HB6.out hb7) (HN6.out.below hb7).ow (by omega : w.heap.size ≤ w3.heap.size); have hc := q1.cell; have HFI := Lib.hid (And.intro q2 q3); have kc := HRr.out.cell; have kf := HRr.out.free; clear hb7 kb6 q1 q2 q3)
      obtain ⟨s0, s1, s2⟩ := res3 (x := .slice E0 N.ends.length e0) (y := .slice E1 N.ids.length e1) (z := .slice E2 N.inputs.length e2) HRr.out
      unfold set3 at hc
      exact bodyPost_ret (v := .tuple #[.agg #[.slice E0 N.ends.length e0, .slice E1 N.ids.length e1, .slice E2 N.inputs.length e2], .bool true]) (by simp [results, Try.results6, go_sem, hc, s0, s1, s2]) rfl ⟨HFI.out.2, .inl ⟨by rw [HO.out]; rfl, _, rfl, HFI.out.1⟩⟩
end Go.Proofs.Ytkbhbbehidhknaa

namespace Go.Proofs.Ytkbhbbehidhknaa
open Go.RowKit
attribute [local go_sem] BW.cell BW.frozen

/-- a port's new place, as the closure reckons it -/
def movP (π : List Int) (v q j : Int) : Int := if q = v then gi π j.toNat else j
set_option maxRecDepth 100000 in
set_option maxHeartbeats 2000000 in
theorem moved_any {S : Nat → Prop} (w : World) (gv gp : Nat) (q j v : Int) (pv : Value) (π : List Int) (hv : Blk w gv 3 #[.int .i64 v]) (hp : Blk w gp 25 #[pv]) (hr : IntsR w S pv π) (hj : q = v → ∃ i : Nat, j = (i : Int) ∧ i < π.length) :
    Calls Try.prog 38 #[.agg #[.int .i64 q, .int .i64 j], .pointer (some ⟨gv, 0, none⟩), .pointer (some ⟨gp, 0, none⟩)] w (fun e w' => Below w.heap.size w w' ∧ e = .returned (.agg #[.int .i64 q, .int .i64 (movP π v q j)])) := by
  obtain ⟨A, c, rfl, -, hm, hx⟩ := hr
  unfold maxLen at hm
  have HX := Lib.hid hx
  have HJ := Lib.hid hj
  obtain ⟨wz, hwz⟩ : ∃ wz, wz = (w.alloc (.cells #[.int .i64 q, .int .i64 j] 35)).alloc (.cells #[.int .i64 0, .int .i64 0] 35) := ⟨_, rfl⟩
  have hbz : Below w.heap.size w wz := by rw [hwz]; exact ((Below.refl _ _).alloc (by simp) _).alloc (by simp) _
  have HB := Lib.hid hbz
  have HK : Hid (Blk wz w.heap.size 35 #[.int .i64 q, .int .i64 j]) := Lib.hid (by
    rw [hwz]
    have := (Blk.new w 35 #[.int .i64 q, .int .i64 j]).alloc (.cells #[.int .i64 0, .int .i64 0] 35)
    simpa using this)
  have HR : Hid (Blk wz (w.heap.size + 1) 35 #[.int .i64 0, .int .i64 0]) := Lib.hid (by
    rw [hwz]
    have := Blk.new (w.alloc (.cells #[.int .i64 q, .int .i64 j] 35)) 35 #[.int .i64 0, .int .i64 0]
    simpa using this)
  have kv := (hv.below hbz).cell
  have kp := (hp.below hbz).cell
  have HZ := Lib.hid hwz
  clear hwz hbz hv hp hx hj
  go_enter Try.func38, Try.ntmps38
  go_upto_region 1 with fail
  rw [← HZ.out]
  clear HZ
  have ka := HK.out.cell
  have fa := HK.out.free
  have kr := HR.out.cell
  have fr := HR.out.free
  by_cases hq : q = v
  · obtain ⟨i, rfl, hi⟩ := HJ.out hq
    obtain ⟨b, off, rfl, -, hc⟩ := HX.out (by omega)
    have c0 := hc i hi
    have c1 : wz.cell? ⟨b, off + i, none⟩ = some (.int .i64 (gi π i)) := (HB.out.cell (p := ⟨b, off + i, none⟩) (lt_of_cell c0)).trans c0
    have i0 : (0 : Int) ≤ (i : Int) := by omega
    have i1 : (i : Int) < (π.length : Int) := by omega
    have HM : Hid (movP π v q (i : Int) = gi π i) := Lib.hid (by unfold movP; rw [if_pos hq, Int.toNat_natCast])
    subst hq
    clear c0 hc HX HJ
    have h1 := HK.out.put 1 (.int .i64 (gi π i))
    have h2 := h1.cell
    have h3 : Blk (wz.setCell ⟨w.heap.size, 1, none⟩ (.int .i64 (gi π i))) (w.heap.size + 1) 35 #[.int .i64 0, .int .i64 0] := HR.out.far (by simp) _
    have h5 := h3.free
    have h6 := ((h3.put 0 (.int .i64 q)).put 1 (.int .i64 (gi π i))).cell
    have HF := Lib.hid (((HB.out.setCell (p := ⟨w.heap.size, 1, none⟩) (Nat.le_refl _) (.int .i64 (gi π i))).setCell (p := ⟨w.heap.size + 1, 0, none⟩) (by simp) (.int .i64 q)).setCell (p := ⟨w.heap.size + 1, 1, none⟩) (by simp) (.int .i64 (gi π i)))
    clear h1 h3
    go_wp2_with fail
    exact bodyPost_ret (v := .agg #[.int .i64 q, .int .i64 (gi π i)]) (by simp [results, Try.results38, go_sem, h6]) rfl ⟨HF.out, by rw [HM.out]⟩
  · have HM : Hid (movP π v q j = j) := Lib.hid (by unfold movP; rw [if_neg hq])
    have h6 := ((HR.out.put 0 (.int .i64 q)).put 1 (.int .i64 j)).cell
    have HF := Lib.hid ((HB.out.setCell (p := ⟨w.heap.size + 1, 0, none⟩) (by simp) (.int .i64 q)).setCell (p := ⟨w.heap.size + 1, 1, none⟩) (by simp) (.int .i64 j))
    go_wp2_with fail
    exact bodyPost_ret (v := .agg #[.int .i64 q, .int .i64 j]) (by simp [results, Try.results38, go_sem, h6]) rfl ⟨HF.out, by rw [HM.out]⟩
theorem portsOk_eq (N : Net) (v : Int) (π : List Int) : portsOk N v π = (goodB N && (inB v 0 ((N.ends.length : Int) - 1) && permB π (dg N.ends v.toNat))) := by
  unfold portsOk nodeB
  simp [Bool.and_assoc]

theorem movP_eq {ess : List (List (Int × Int))} {π : List Int} {v b j : Nat} (hp : π.Perm (upTo (dg ess v))) (hj : j < dg ess b) : movP π (v : Int) (b : Int) (j : Int) = (piN π v b j : Int) := by
  unfold movP piN
  by_cases h : b = v
  · subst h
    obtain ⟨m, hm, -⟩ := perm_at hp hj
    rw [if_pos rfl, if_pos rfl, Int.toNat_natCast, hm, Int.toNat_natCast]
  · rw [if_neg h, if_neg (by omega)]
set_option maxRecDepth 100000 in
set_option maxHeartbeats 8000000 in
theorem PermutePorts_any {S S' : Nat → Prop} (u pv : Value) (N : Net) (v : Int) (π : List Int) (w : World) (h : NetR w S u N) (hpi : IntsR w S' pv π) (hs : Small N) :
    Calls Try.prog 12 #[u, .int .i64 v, pv] w (RetNO w (portsN N v.toNat π) (portsOk N v π)) := by
  have hsl := hs.1
  have hsi := hs.2.2.1
  have HSD := Lib.hid hs.2.1
  have HS := Lib.hid hs
  have HPV := Lib.hid hpi
  have hpb := hpi.bound
  obtain ⟨Ap, cp, rfl, -, -, -⟩ := hpi
  have HN := Lib.hid h
  obtain ⟨ve, vi, vn, rfl, he, hi, hn⟩ := h
  obtain ⟨A, c, rfl, -, hmc, hx⟩ := he
  obtain ⟨A1, c1, rfl, -, -, -⟩ := hi
  obtain ⟨A2, c2, rfl, -, -, -⟩ := hn
  unfold maxLen at hmc
  have HX := Lib.hid hx
  clear hx
  obtain ⟨wz, hwz⟩ : ∃ wz, wz = ((((w.alloc (.cells #[.slice A N.ends.length c, .slice A1 N.ids.length c1, .slice A2 N.inputs.length c2] 27)).alloc (.cells #[.int .i64 v] 3)).alloc (.cells #[.slice Ap π.length cp] 25)).alloc (.cells #[.slice none 0 0, .slice none 0 0, .slice none 0 0] 27)) := ⟨_, rfl⟩
  have hzs : wz.heap.size = w.heap.size + 4 := by rw [hwz]; simp
  have hbz : Below w.heap.size w wz := by rw [hwz]; exact (((((Below.refl _ _).alloc (by simp) _).alloc (by simp) _).alloc (by simp; omega) _).alloc (by simp; omega) _)
  have HK : Hid (Blk wz w.heap.size 27 #[.slice A N.ends.length c, .slice A1 N.ids.length c1, .slice A2 N.inputs.length c2]) := Lib.hid (by
    rw [hwz]
    have := ((((Blk.new w 27 #[.slice A N.ends.length c, .slice A1 N.ids.length c1, .slice A2 N.inputs.length c2]).alloc (.cells #[.int .i64 v] 3)).alloc (.cells #[.slice Ap π.length cp] 25)).alloc (.cells #[.slice none 0 0, .slice none 0 0, .slice none 0 0] 27))
    simpa using this)
  have HE1 : Hid (Blk wz (w.heap.size + 1) 3 #[.int .i64 v]) := Lib.hid (by
    rw [hwz]
    have := (((Blk.new (w.alloc (.cells #[.slice A N.ends.length c, .slice A1 N.ids.length c1, .slice A2 N.inputs.length c2] 27)) 3 #[.int .i64 v]).alloc (.cells #[.slice Ap π.length cp] 25)).alloc (.cells #[.slice none 0 0, .slice none 0 0, .slice none 0 0] 27))
    simpa using this)
  have HE2 : Hid (Blk wz (w.heap.size + 2) 25 #[.slice Ap π.length cp]) := Lib.hid (by
    rw [hwz]
    have := ((Blk.new ((w.alloc (.cells #[.slice A N.ends.length c, .slice A1 N.ids.length c1, .slice A2 N.inputs.length c2] 27)).alloc (.cells #[.int .i64 v] 3)) 25 #[.slice Ap π.length cp]).alloc (.cells #[.slice none 0 0, .slice none 0 0, .slice none 0 0] 27))
    simpa using this)
  have HR : Hid (Blk wz (w.heap.size + 3) 27 #[.slice none 0 0, .slice none 0 0, .slice none 0 0]) := Lib.hid (by
    rw [hwz]
    have := (Blk.new (((w.alloc (.cells #[.slice A N.ends.length c, .slice A1 N.ids.length c1, .slice A2 N.inputs.length c2] 27)).alloc (.cells #[.int .i64 v] 3)).alloc (.cells #[.slice Ap π.length cp] 25)) 27 #[.slice none 0 0, .slice none 0 0, .slice none 0 0])
    simpa using this)
  have HB0 := Lib.hid hbz
  have HZ := Lib.hid hwz
  have CN := Lib.hid (fun W (hW : Below wz.heap.size wz W) => IsNetwork_any _ N W ((HN.out.below HB0.out).below hW) (by omega))
  have CV := Lib.hid (fun W => hasNode_any A N.ends.length c (.slice A1 N.ids.length c1) (.slice A2 N.inputs.length c2) v W (by omega))
  have hdv : dg N.ends v.toNat ≤ 262144 := by
    by_cases h : v.toNat < N.ends.length
    · exact HSD.out _ h
    · unfold dg gl; simp [List.getD_eq_getElem?_getD, List.getElem?_eq_none (Nat.le_of_not_lt h)]
  have CP := Lib.hid (fun W (hW : Below wz.heap.size wz W) => isPermutation_any (.slice Ap π.length cp) π (dg N.ends v.toNat) W ((HPV.out.below HB0.out).below hW) (by omega))
  have HO := Lib.hid (portsOk_eq N v π)
  obtain ⟨g1, hg1⟩ : ∃ g, g = goodB N := ⟨_, rfl⟩
  obtain ⟨g2, hg2⟩ : ∃ g, g = inB v 0 ((N.ends.length : Int) - 1) := ⟨_, rfl⟩
  obtain ⟨g3, hg3⟩ : ∃ g, g = permB π (dg N.ends v.toNat) := ⟨_, rfl⟩
  rw [← hg1, ← hg2, ← hg3] at HO
  rw [← hg1] at CN
  rw [← hg2] at CV
  rw [← hg3] at CP
  have HG1 := Lib.hid hg1
  have HG2 := Lib.hid hg2
  have HG3 := Lib.hid hg3
  clear hwz hbz hg1 hg2 hg3 hs
  go_enter Try.func12, Try.ntmps12
  go_upto_region 1 with fail
  rw [← HZ.out]
  clear HZ
  have ka := HK.out.cell
  have kv := HE1.out.cell
  have kp := HE2.out.cell
  have h0 : w.heap.size < wz.heap.size := by omega
  have h1 : w.heap.size + 1 < wz.heap.size := by omega
  have h2 : w.heap.size + 2 < wz.heap.size := by omega
  cases g1 with
  | false =>
    refine wp_region_below (by kernel_rfl) (by kernel_rfl) ?_
    repeat (go_big_quiet_step ((first | (go_at_call 37; exact quietB (CP.out _ (BW.h _))) | (go_at_call 22; exact quietB (CV.out _)) | (go_at_call 21; exact quietB (CN.out _ (BW.h _))))))
    refine wpQuiet_nil ?_
    rintro _ ⟨x1, rfl⟩
    have HRr := Lib.hid (HR.out.below (BW.h x1))
    have hc := (set3_blk (x := .slice none 0 0) (y := .slice none 0 0) (z := .slice none 0 0) HRr.out).cell
    unfold set3 at hc
    have kc := HRr.out.cell
    have kf := HRr.out.free
    have HB9 := Lib.hid (set3_below (p := w.heap.size + 3) (Below.then_ HB0.out (BW.h x1)) (by omega) (.slice none 0 0) (.slice none 0 0) (.slice none 0 0))
    go_wp2_with fail
    obtain ⟨s0, s1, s2⟩ := res3 (x := .slice none 0 0) (y := .slice none 0 0) (z := .slice none 0 0) HRr.out
    exact bodyPost_ret (v := .tuple #[zeroNet, .bool false]) (by simp [results, Try.results12, go_sem, hc, s0, s1, s2, zeroNet]) rfl ⟨HB9.out, .inr ⟨by rw [HO.out]; rfl, rfl⟩⟩
  | true =>
  cases g2 with
  | false =>
    refine wp_region_below (by kernel_rfl) (by kernel_rfl) ?_
    repeat (go_big_quiet_step ((first | (go_at_call 37; exact quietB (CP.out _ (BW.h _))) | (go_at_call 22; exact quietB (CV.out _)) | (go_at_call 21; exact quietB (CN.out _ (BW.h _))))))
    refine wpQuiet_nil ?_
    rintro _ ⟨x1, rfl⟩
    have HRr := Lib.hid (HR.out.below (BW.h x1))
    have hc := (set3_blk (x := .slice none 0 0) (y := .slice none 0 0) (z := .slice none 0 0) HRr.out).cell
    unfold set3 at hc
    have kc := HRr.out.cell
    have kf := HRr.out.free
    have HB9 := Lib.hid (set3_below (p := w.heap.size + 3) (Below.then_ HB0.out (BW.h x1)) (by omega) (.slice none 0 0) (.slice none 0 0) (.slice none 0 0))
    go_wp2_with fail
    obtain ⟨s0, s1, s2⟩ := res3 (x := .slice none 0 0) (y := .slice none 0 0) (z := .slice none 0 0) HRr.out
    exact bodyPost_ret (v := .tuple #[zeroNet, .bool false]) (by simp [results, Try.results12, go_sem, hc, s0, s1, s2, zeroNet]) rfl ⟨HB9.out, .inr ⟨by rw [HO.out]; rfl, rfl⟩⟩
  | true =>
  obtain ⟨a, rfl, ha⟩ := inB_nat HG2.out.symm
  rw [Int.toNat_natCast] at *
  obtain ⟨b, off, rfl, -, hrow⟩ := HX.out (by omega)
  have HROW := Lib.hid hrow
  obtain ⟨ua, hua, hur⟩ := hrow a ha
  obtain ⟨R, rc, rfl, -, hrm, -⟩ := hur
  have hub := lt_of_cell hua
  have kr := (HB0.out.cell (p := ⟨b, off + a, none⟩) hub).trans hua
  have hubz : b < w.heap.size + 4 := by omega
  have iv1 : (0 : Int) ≤ (a : Int) := by omega
  have iv2 : (a : Int) < (N.ends.length : Int) := by omega
  have hdg : dg N.ends a = (gl N.ends a).length := rfl
  rw [hdg] at *
  clear hdg
  clear hrow hua HX HG2
  cases g3 with
  | false =>
    refine wp_region_below (by kernel_rfl) (by kernel_rfl) ?_
    repeat (go_big_quiet_step ((first | (go_at_call 37; exact quietB (CP.out _ (BW.h _))) | (go_at_call 22; exact quietB (CV.out _)) | (go_at_call 21; exact quietB (CN.out _ (BW.h _))))))
    refine wpQuiet_nil ?_
    rintro _ ⟨x1, rfl⟩
    have HRr := Lib.hid (HR.out.below (BW.h x1))
    have hc := (set3_blk (x := .slice none 0 0) (y := .slice none 0 0) (z := .slice none 0 0) HRr.out).cell
    unfold set3 at hc
    have kc := HRr.out.cell
    have kf := HRr.out.free
    have HB9 := Lib.hid (set3_below (p := w.heap.size + 3) (Below.then_ HB0.out (BW.h x1)) (by omega) (.slice none 0 0) (.slice none 0 0) (.slice none 0 0))
    go_wp2_with fail
    obtain ⟨s0, s1, s2⟩ := res3 (x := .slice none 0 0) (y := .slice none 0 0) (z := .slice none 0 0) HRr.out
    exact bodyPost_ret (v := .tuple #[zeroNet, .bool false]) (by simp [results, Try.results12, go_sem, hc, s0, s1, s2, zeroNet]) rfl ⟨HB9.out, .inr ⟨by rw [HO.out]; rfl, rfl⟩⟩
  | true =>
    have hpm : π.Perm (upTo (dg N.ends a)) := permB_perm HG3.out.symm
    have hpl : π.length = dg N.ends a := by rw [hpm.length_eq, upTo_length]
    have HPM := Lib.hid hpm
    have HPL := Lib.hid hpl
    have HSY := Lib.hid (endsOk_iff.1 (goodB_iff.1 HG1.out.symm).2.2.2.2).2
    clear hpm hpl HG1 HG3
    refine wp_region_below (by kernel_rfl) (by kernel_rfl) ?_
    repeat (go_big_quiet_step ((first | (go_at_call 37; exact quietB (CP.out _ (BW.h _))) | (go_at_call 22; exact quietB (CV.out _)) | (go_at_call 21; exact quietB (CN.out _ (BW.h _))))))
    refine wpQuiet_nil ?_
    rintro _ ⟨x1, rfl⟩
    obtain ⟨w3, hb3⟩ := x1
    have HB3 := Lib.hid hb3
    have kb3 := (HK.out.below hb3).cell
    go_upto_region 3 with fail
    clear ka kv kp kr
    go_upto_region 4 with (go_at_call 23; refine (copyNetwork_any _ N _ ((HN.out.below HB0.out).below HB3.out) HS.out.fits).mono ?_; rintro e w4 ⟨v4, rfl, ho4, hb4⟩; obtain ⟨E0, e0, E1, e1, E2, e2, rfl⟩ := ho4.parts)
    have hz3 := HB3.out.size
    have hal : Below w4.heap.size w4 (w4.alloc (.cells #[.slice E0 N.ends.length e0, .slice E1 N.ids.length e1, .slice E2 N.inputs.length e2] 27)) := (Below.refl _ _).alloc (Nat.le_refl _) _
    have HB4 := Lib.hid (Below.then_ (Below.then_ (Below.then_ HB0.out HB3.out) hb4) hal)
    have HBz := Lib.hid (Below.then_ (Below.then_ HB3.out hb4) hal)
    have HR4 := Lib.hid (HR.out.below HBz.out)
    have HK4 := Lib.hid (HK.out.below HBz.out)
    have HE14 := Lib.hid (HE1.out.below HBz.out)
    have HE24 := Lib.hid (HE2.out.below HBz.out)
    have HN4 := Lib.hid (NB.made ho4)
    have hz4 := hb4.size
    have hza : w4.heap.size + 1 = (w4.alloc (.cells #[.slice E0 N.ends.length e0, .slice E1 N.ids.length e1, .slice E2 N.inputs.length e2] 27)).heap.size := by simp
    obtain ⟨g, hg⟩ : ∃ g, g = w4.heap.size := ⟨_, rfl⟩
    rw [← hg] at HN4 ⊢
    generalize w4.alloc (.cells #[.slice E0 N.ends.length e0, .slice E1 N.ids.length e1, .slice E2 N.inputs.length e2] 27) = w5 at *
    have hz5 : w3.heap.size ≤ w5.heap.size := by omega
    have hg3 : w3.heap.size ≤ g := by omega
    clear hg hza hal hb3 hb4 ho4 kb3 HR HK HE1 HE2 HB3 HBz
    obtain ⟨⟨us, hrow5, hin5, hdis5⟩, q2, q3, q4⟩ := HN4.out.parts
    obtain ⟨gE, hGE⟩ : ∃ gE, E0 = some ⟨gE, 0, none⟩ := by
      rcases hrow5.2 with ⟨h1, h0⟩ | ⟨g', cap', cur', h1, -⟩
      · omega
      · simp only [Value.slice.injEq] at h1; exact ⟨g', h1.1⟩
    subst hGE
    have HI0 : Hid (InBx w5 w3.heap.size g gE e0 E1 E2 e1 e2 N.ends N.ids N.inputs us) := Lib.hid ⟨hrow5, hin5, hdis5, q2, q3, HN4.out.bx⟩
    have HAP := Lib.hid q4
    have MV : Hid (∀ (W : World) (b j : Nat), LowB w3.heap.size w5 W → j < dg N.ends b → Calls Try.prog 38 #[.agg #[.int .i64 (b : Int), .int .i64 (j : Int)], .pointer (some ⟨w.heap.size + 1, 0, none⟩), .pointer (some ⟨w.heap.size + 1 + 1, 0, none⟩)] W (fun e w' => Below W.heap.size W w' ∧ e = .returned (.agg #[.int .i64 (b : Int), .int .i64 (piN π a b j : Int)]))) := Lib.hid fun W b j hL hj => by
      rw [← movP_eq HPM.out hj]
      refine moved_any W (w.heap.size + 1) (w.heap.size + 1 + 1) b j a (.slice Ap π.length cp) π ((hL.block _ (by omega)).trans HE14.out) ((hL.block _ (by omega)).trans HE24.out) (HPV.out.keep (fun _ h => h) fun b _ hb => (hL.block b (by omega)).trans (HB4.out.block b hb)) fun e => ⟨j, rfl, ?_⟩
      have : b = a := by omega
      subst this
      rw [HPL.out]; exact hj
    clear hrow5 hin5 hdis5 q2 q3 q4 HN4 HPV HPL
    have kb5 := HK4.out.cell
    go_wp2_with fail
    clear kb5
    go_loopw [42] (fun x42 wr => ∃ (k : Nat) (ess' : List (List (Int × Int))), k ≤ N.ends.length ∧ x42 = .int .i64 k ∧ PP a π N.ends ess' k 0 ∧ InBx wr w3.heap.size g gE e0 E1 E2 e1 e2 ess' N.ids N.inputs us ∧ LowB w3.heap.size w5 wr)
      (fun x42 _ => N.ends.length - (intOf x42).toNat)
    case atStart => exact ⟨0, N.ends, Nat.zero_le _, rfl, PP.start _ _ _, HI0.out, ⟨rfl, rfl, rfl, Nat.le_refl _, fun _ _ => rfl⟩⟩
    case round =>
      obtain ⟨k, ess', hk, rfl, hpp, hin, hlow⟩ := hrel
      obtain ⟨wr2, rfl⟩ : ∃ wr2, wr2 = wr := ⟨_, rfl⟩
      have HPP := Lib.hid hpp
      have HIN := Lib.hid hin
      have HLW := Lib.hid hlow
      clear HI0 hpp hin hlow
      by_cases hlt : k < N.ends.length
      · obtain ⟨uk, huk, hurk⟩ := HROW.out k hlt
        obtain ⟨Rk, rck, rfl, -, hrmk, hrrk⟩ := hurk
        have ck : wr2.cell? ⟨b, off + k, none⟩ = some (.slice Rk (gl N.ends k).length rck) := (World.cell?_of_block (w := w5) (HLW.out.block b (by omega))).trans ((HB4.out.cell (p := ⟨b, off + k, none⟩) (lt_of_cell huk)).trans huk)
        have HRR := Lib.hid hrrk
        have jv1 : (0 : Int) ≤ (k : Int) := by omega
        have jv2 : (k : Int) < (N.ends.length : Int) := by omega
        have hdk := HSD.out k hlt
        obtain ⟨dk, hdk'⟩ : ∃ dk, dk = (gl N.ends k).length := ⟨_, rfl⟩
        rw [← hdk'] at ck hdk
        have HDK := Lib.hid hdk'
        clear huk hrrk hdk'
        go_wp2_with fail
        go_loopw [49] (fun x49 wi => ∃ (j : Nat) (ess2 : List (List (Int × Int))), j ≤ dk ∧ x49 = .int .i64 j ∧ PP a π N.ends ess2 k j ∧ InBx wi w3.heap.size g gE e0 E1 E2 e1 e2 ess2 N.ids N.inputs us ∧ LowB w3.heap.size w5 wi)
          (fun x49 _ => dk - (intOf x49).toNat)
        case atStart => exact ⟨0, ess', Nat.zero_le _, rfl, HPP.out, HIN.out, HLW.out⟩
        case round =>
          clear HPP HIN HLW ck
          obtain ⟨j, ess2, hj, rfl, hpp, hin, hlow⟩ := hrel
          obtain ⟨wi2, rfl⟩ : ∃ wi2, wi2 = wr := ⟨_, rfl⟩
          have HPP := Lib.hid hpp
          have HIN := Lib.hid hin
          have HLW := Lib.hid hlow
          clear hpp hin hlow
          by_cases hjl : j < dk
          · have hjd : j < dg N.ends k := by unfold dg; rw [← HDK.out]; exact hjl
            obtain ⟨q, jj, hpt, hqb, hjj, -⟩ := HSY.out k j hlt hjd
            obtain ⟨bq, oq, rfl, -, hq⟩ := HRR.out (by rw [← HDK.out]; omega)
            obtain ⟨p1, p2⟩ := hq j (by rw [← HDK.out]; exact hjl)
            have hpt' := hpt
            unfold pt at hpt'
            rw [hpt'] at p1 p2
            have D1 : wi2.cell? ⟨bq, oq + j * 2, none⟩ = some (.int .i64 (q : Int)) := (World.cell?_of_block (w := w5) (HLW.out.block bq (by have := lt_of_cell p1; omega))).trans ((HB4.out.cell (p := ⟨bq, oq + j * 2, none⟩) (lt_of_cell p1)).trans p1)
            have D2 : wi2.cell? ⟨bq, oq + j * 2 + 1, none⟩ = some (.int .i64 (jj : Int)) := (World.cell?_of_block (w := w5) (HLW.out.block bq (by have := lt_of_cell p1; omega))).trans ((HB4.out.cell (p := ⟨bq, oq + j * 2 + 1, none⟩) (lt_of_cell p2)).trans p2)
            have HPT := Lib.hid hpt
            have jw1 : (0 : Int) ≤ (j : Int) := by omega
            have jw2 : (j : Int) < (dk : Int) := by omega
            clear hq p1 p2 hpt hpt'
            go_upto_region 11 with fail
            have HW1L : Hid (LowB w3.heap.size w5 (wi2.alloc (.cells #[.int .i64 (q : Int), .int .i64 (jj : Int)] 35))) := Lib.hid (LowB.trans HLW.out (LowB.of_below ((Below.refl _ _).alloc (Nat.le_refl _) _) (by have := HLW.out.size; omega)))
            clear D1 D2
            go_upto_region 12 with (go_at_call 38; refine (MV.out _ k j HW1L.out hjd).mono ?_; rintro e wc ⟨hbc, rfl⟩)
            have hza := HLW.out.size
            have hzc := hbc.size
            rw [World.size_alloc] at hzc
            have HB2 : Hid (Below wi2.heap.size wi2 (wc.alloc (.cells #[.int .i64 (k : Int), .int .i64 (piN π a k j : Int)] 35))) := Lib.hid ((Below.then_ ((Below.refl _ _).alloc (Nat.le_refl _) _) hbc).alloc (by omega) _)
            have HK13 : Hid (Blk (wc.alloc (.cells #[.int .i64 (k : Int), .int .i64 (piN π a k j : Int)] 35)) wi2.heap.size 35 #[.int .i64 (q : Int), .int .i64 (jj : Int)]) := Lib.hid (((Blk.new wi2 35 #[.int .i64 (q : Int), .int .i64 (jj : Int)]).below hbc).alloc _)
            have HK14 : Hid (Blk (wc.alloc (.cells #[.int .i64 (k : Int), .int .i64 (piN π a k j : Int)] 35)) wc.heap.size 35 #[.int .i64 (k : Int), .int .i64 (piN π a k j : Int)]) := Lib.hid (Blk.new wc _ _)
            have hzw : wc.heap.size < (wc.alloc (.cells #[.int .i64 (k : Int), .int .i64 (piN π a k j : Int)] 35)).heap.size := by simp
            obtain ⟨h14, hh14⟩ : ∃ h14, h14 = wc.heap.size := ⟨_, rfl⟩
            rw [← hh14] at HK14 hzw ⊢
            clear hbc HW1L
            generalize wc.alloc (.cells #[.int .i64 (k : Int), .int .i64 (piN π a k j : Int)] 35) = W2 at *
            have hz13 : wi2.heap.size < W2.heap.size := by omega
            clear hh14 hzc
            have HIN2 := Lib.hid (HIN.out.below HB2.out)
            have HL2 := Lib.hid (LowB.trans HLW.out (LowB.of_below HB2.out (by omega)))
            have hlen := HPP.out.len
            have hdeg := HPP.out.deg k
            have hpk : piN π a k j < dg N.ends k := piN_lt HPM.out hjd
            have hkl : k < ess2.length := by omega
            have hpl : piN π a k j < dg ess2 k := by omega
            obtain ⟨gr, cr, hus, cE, hgB, hgl, ca1, ca2, hfr, cB⟩ := HIN2.out.spot hkl hpl
            obtain ⟨t1, ht1⟩ : ∃ t, t = (pt ess2 k (piN π a k j)).1 := ⟨_, rfl⟩
            obtain ⟨t2, ht2⟩ : ∃ t, t = (pt ess2 k (piN π a k j)).2 := ⟨_, rfl⟩
            rw [← ht1] at ca1
            rw [← ht2] at ca2
            have HCA := Lib.hid (And.intro ca1 ca2)
            clear ht1 ht2 ca1 ca2
            have HUS := Lib.hid hus
            rw [hdeg] at cE
            rw [hlen] at cB
            have c13 := HK13.out.cell
            have c14 := HK14.out.cell
            have hgl2 : g < W2.heap.size := (HIN2.out.hbox).lt
            have hgE : gE < W2.heap.size := lt_of_cell cE
            have pv1 : (0 : Int) ≤ (piN π a k j : Int) := by omega
            have pv2 : (piN π a k j : Int) < (dg N.ends k : Int) := by omega
            obtain ⟨pk, hpk'⟩ : ∃ pk, pk = piN π a k j := ⟨_, rfl⟩
            obtain ⟨pq, hpq'⟩ : ∃ pq, pq = piN π a q jj := ⟨_, rfl⟩
            obtain ⟨dk2, hdk2⟩ : ∃ d, d = dg N.ends k := ⟨_, rfl⟩
            have MV2 := Lib.hid (fun (x : BW W2) => MV.out x.wd q jj (LowB.trans HL2.out (LowB.of_below x.h (by omega))) hjj)
            rw [← hpq'] at MV2
            rw [← hpk'] at HCA c14 HK14 pv1 pv2 hpk hpl ⊢
            rw [← hdk2] at cE pv2
            have HPK := Lib.hid hpk'
            have HPQ := Lib.hid hpq'
            clear hus hpk' hpq' hdk2 hlen hdeg
            refine wp_region_makeZ (fun i => match i with | 10 => some (mkV (.agg #[.int .i64 (q : Int), .int .i64 (pq : Int)])) | _ => none) 12 1000 (by kernel_rfl) (by kernel_rfl) (by intro o ho; first | (cases ho; done) | (cases ho; intro _ _ _ _ h; exact h)) ?_
            simp only [List.take_succ_cons, List.take_zero, List.drop_succ_cons, List.drop_zero]
            refine wpMk_quiet 10 _ _ _ rfl rfl ?_
            simp only [List.take_succ_cons, List.take_zero, List.drop_succ_cons, List.drop_zero]
            repeat (go_big_quiet_step (fail))
            refine wpQuiet_nil ?_
            refine wpMk_make _ 69 rfl rfl (by simp) (fun x hneed => by { go_wp2_with (go_at_call 38; refine (MV2.out _).mono ?_; rintro e x' ⟨hb, rfl⟩); exact mkV.gives hb }) rfl ?_
            rintro v69 b69 e69 rfl
            simp only [Act.put, List.setIfInBounds_toArray, List.set_cons_zero, List.set_cons_succ]
            refine wpMk_quiet 1 _ _ _ rfl rfl ?_
            simp only [List.take_succ_cons, List.take_zero, List.drop_succ_cons, List.drop_zero]
            repeat (go_big_quiet_step (fail))
            refine wpQuiet_nil ?_
            rintro x hbx - hdis hord
            have HIN3 := Lib.hid (HIN2.out.below hbx)
            have hx1 := (hbx.cell (p := ⟨gr, pk * 2, none⟩) hgl).trans HCA.out.1
            have hx2 := (hbx.cell (p := ⟨gr, pk * 2 + 1, none⟩) hgl).trans HCA.out.2
            have hfx : ∀ i, x.frozen? ⟨gr, i, none⟩ = false := fun i => (hbx.frozen (p := ⟨gr, i, none⟩) hgl).trans (hfr i)
            have HST := Lib.hid (InBx.store (x := (q : Int)) (y := (pq : Int)) HIN3.out hkl hpl HUS.out)
            have HLF := Lib.hid (((LowB.trans HL2.out (LowB.of_below hbx (by omega))).trans (LowB.set (p := ⟨gr, pk * 2, none⟩) hgB (.int .i64 (q : Int)))).trans (LowB.set (p := ⟨gr, pk * 2 + 1, none⟩) hgB (.int .i64 (pq : Int))))
            have HPN : Hid (PP a π N.ends (set2 ess2 k pk ((q : Int), (pq : Int))) k (j + 1)) := Lib.hid (by
              have := HPP.out.next HPM.out hlt hjd
              rw [HPT.out, phiE_eq HPM.out hjj, ← HPK.out, ← HPQ.out] at this
              exact this)
            clear hfr hdis hord hbx c13 c14 cE cB
            go_wp2_with fail
            go_roundw
            case rel => exact ⟨j + 1, _, by omega, by go_num, HPN.out, HST.out, HLF.out⟩
            case measure => simp [intOf]; omega
          · obtain rfl : j = dk := by omega
            have hjx : ¬ ((j : Int) < (j : Int)) := by omega
            have HPR := Lib.hid (HPP.out.row (by unfold dg; rw [← HDK.out]; exact Nat.le_refl _))
            clear hj hjl
            go_wp2_with fail
            go_roundw
            case rel => exact ⟨k + 1, ess2, by omega, by go_num, HPR.out, HIN.out, HLW.out⟩
            case measure => simp [intOf]; omega
      · obtain rfl : k = N.ends.length := by omega
        have hess := HPP.out.done HPM.out (Nat.le_refl _)
        subst hess
        have hjx : ¬ ((N.ends.length : Int) < (N.ends.length : Int)) := by omega
        have hbx := HIN.out.hbox
        rw [portsE_len] at hbx
        have c8 := hbx.cell
        have hes := HIN.out.es
        rw [portsE_len] at hes
        have ho : OwnNt wr2 w3.heap.size (.agg #[.slice (some ⟨gE, 0, none⟩) N.ends.length e0, .slice E1 N.ids.length e1, .slice E2 N.inputs.length e2]) (portsN N a π) := ⟨_, _, _, rfl, hes, HIN.out.hids, HIN.out.hins, HAP.out⟩
        have hres : Blk wr2 (w.heap.size + 3) 27 #[.slice none 0 0, .slice none 0 0, .slice none 0 0] := (HLW.out.block (w.heap.size + 3) (by omega)).trans HR4.out
        obtain ⟨q1, q2, q3⟩ := resStoreT (w := w) hres (by omega) (belowLow HB4.out HLW.out (by omega)) ho (by omega)
        have hc := q1.cell
        have HFI := Lib.hid (And.intro q2 q3)
        have kc := hres.cell
        have kf := hres.free
        have s3 := Lib.hid hres
        clear q1 q2 q3 hbx hes ho hres hk hlt
        unfold set3 at hc
        go_wp2_with fail
        obtain ⟨s0, s1, s2⟩ := res3 (x := .slice (some ⟨gE, 0, none⟩) N.ends.length e0) (y := .slice E1 N.ids.length e1) (z := .slice E2 N.inputs.length e2) s3.out
        exact bodyPost_ret (v := .tuple #[.agg #[.slice (some ⟨gE, 0, none⟩) N.ends.length e0, .slice E1 N.ids.length e1, .slice E2 N.inputs.length e2], .bool true]) (by simp [results, Try.results12, go_sem, hc, s0, s1, s2]) rfl ⟨HFI.out.2, .inl ⟨by rw [HO.out]; rfl, _, rfl, HFI.out.1⟩⟩
end Go.Proofs.Ytkbhbbehidhknaa

namespace Go.Proofs.Ytkbhbbehidhknaa
open Go.RowKit

set_option maxRecDepth 100000 in
set_option maxHeartbeats 8000000 in
theorem UnionOf_any {S S' : Nat → Prop} (u u' : Value) (M N : Net) (w : World) (h : NetR w S u M) (h' : NetR w S' u' N) (hs : Small M) (hs' : Small N) :
    Calls Try.prog 15 #[u, u'] w (RetNO w (unionN M N) (unionOk M N)) := by
  have HM := Lib.hid h
  have HN := Lib.hid h'
  obtain ⟨ve, vi, vn, rfl, he, hi, hn⟩ := h
  obtain ⟨A, c, rfl, -, -, -⟩ := he
  obtain ⟨A1, c1, rfl, -, -, -⟩ := hi
  obtain ⟨A2, c2, rfl, -, -, -⟩ := hn
  obtain ⟨ve, vi, vn, rfl, he, hi, hn⟩ := h'
  obtain ⟨B, d, rfl, -, -, -⟩ := he
  obtain ⟨B1, d1, rfl, -, -, -⟩ := hi
  obtain ⟨B2, d2, rfl, -, -, -⟩ := hn
  have HS := Lib.hid hs
  have HS' := Lib.hid hs'
  have hsi := hs.2.2.1
  have hsi' := hs'.2.2.1
  obtain ⟨wz, hwz⟩ : ∃ wz, wz = (((w.alloc (.cells #[.slice A M.ends.length c, .slice A1 M.ids.length c1, .slice A2 M.inputs.length c2] 27)).alloc (.cells #[.slice B N.ends.length d, .slice B1 N.ids.length d1, .slice B2 N.inputs.length d2] 27)).alloc (.cells #[.slice none 0 0, .slice none 0 0, .slice none 0 0] 27)) := ⟨_, rfl⟩
  have hzs : wz.heap.size = w.heap.size + 3 := by rw [hwz]; simp
  have hbz : Below w.heap.size w wz := by rw [hwz]; exact (((Below.refl _ _).alloc (by simp) _).alloc (by simp) _).alloc (by simp; omega) _
  have HK : Hid (Blk wz w.heap.size 27 #[.slice A M.ends.length c, .slice A1 M.ids.length c1, .slice A2 M.inputs.length c2]) := Lib.hid (by
    rw [hwz]
    have := ((Blk.new w 27 #[.slice A M.ends.length c, .slice A1 M.ids.length c1, .slice A2 M.inputs.length c2]).alloc (.cells #[.slice B N.ends.length d, .slice B1 N.ids.length d1, .slice B2 N.inputs.length d2] 27)).alloc (.cells #[.slice none 0 0, .slice none 0 0, .slice none 0 0] 27)
    simpa using this)
  have HE1 : Hid (Blk wz (w.heap.size + 1) 27 #[.slice B N.ends.length d, .slice B1 N.ids.length d1, .slice B2 N.inputs.length d2]) := Lib.hid (by
    rw [hwz]
    have := (Blk.new (w.alloc (.cells #[.slice A M.ends.length c, .slice A1 M.ids.length c1, .slice A2 M.inputs.length c2] 27)) 27 #[.slice B N.ends.length d, .slice B1 N.ids.length d1, .slice B2 N.inputs.length d2]).alloc (.cells #[.slice none 0 0, .slice none 0 0, .slice none 0 0] 27)
    simpa using this)
  have HR : Hid (Blk wz (w.heap.size + 2) 27 #[.slice none 0 0, .slice none 0 0, .slice none 0 0]) := Lib.hid (by
    rw [hwz]
    have := Blk.new ((w.alloc (.cells #[.slice A M.ends.length c, .slice A1 M.ids.length c1, .slice A2 M.inputs.length c2] 27)).alloc (.cells #[.slice B N.ends.length d, .slice B1 N.ids.length d1, .slice B2 N.inputs.length d2] 27)) 27 #[.slice none 0 0, .slice none 0 0, .slice none 0 0]
    rwa [World.size_alloc, World.size_alloc] at this)
  have HB0 := Lib.hid hbz
  have HZ := Lib.hid hwz
  have CM := Lib.hid (fun W (hW : Below wz.heap.size wz W) => IsNetwork_any _ M W ((HM.out.below HB0.out).below hW) (by omega))
  have CN := Lib.hid (fun W (hW : Below wz.heap.size wz W) => IsNetwork_any _ N W ((HN.out.below HB0.out).below hW) (by omega))
  obtain ⟨g1, hg1⟩ : ∃ g, g = goodB M := ⟨_, rfl⟩
  obtain ⟨g2, hg2⟩ : ∃ g, g = goodB N := ⟨_, rfl⟩
  obtain ⟨b1, hb1⟩ : ∃ b, b = ((M.ids.length : Int) == 0) := ⟨_, rfl⟩
  obtain ⟨b2, hb2⟩ : ∃ b, b = ((N.ids.length : Int) == 0) := ⟨_, rfl⟩
  obtain ⟨g4, hg4⟩ : ∃ g, g = goodB (unionN M N) := ⟨_, rfl⟩
  have HO : Hid (unionOk M N = (g1 && (g2 && ((b1 == b2) && g4)))) := Lib.hid (by unfold unionOk; rw [hg1, hg2, hb1, hb2, hg4])
  rw [← hg1] at CM
  rw [← hg2] at CN
  have HG1 := Lib.hid hg1
  have HG2 := Lib.hid hg2
  have HG4 := Lib.hid hg4
  have e1 : ((M.ids.length : Int) == 0) = b1 := hb1.symm
  have e2 : ((N.ids.length : Int) == 0) = b2 := hb2.symm
  clear hb1 hb2
  clear hwz hbz hg1 hg2 hg4 hs hs'
  go_enter Try.func15, Try.ntmps15
  go_upto_region 1 with fail
  rw [← HZ.out]
  clear HZ
  have ka := HK.out.cell
  have kn := HE1.out.cell
  cases g1 with
  | false =>
    go_upto_region 2 with (go_at_call 21; refine (CM.out wz (Below.refl _ _)).mono ?_; rintro e w1 ⟨rfl, hb1⟩; have HB1 := Lib.hid hb1; have kb1 := (HK.out.below HB1.out).cell; have kn1 := (HE1.out.below HB1.out).cell; clear hb1)
    have HRr := Lib.hid (HR.out.below HB1.out)
    have hc := (set3_blk (x := .slice none 0 0) (y := .slice none 0 0) (z := .slice none 0 0) HRr.out).cell
    unfold set3 at hc
    have kc := HRr.out.cell
    have kf := HRr.out.free
    have HB9 := Lib.hid (set3_below (p := w.heap.size + 2) (Below.then_ HB0.out HB1.out) (by omega) (.slice none 0 0) (.slice none 0 0) (.slice none 0 0))
    go_wp2_with fail
    obtain ⟨s0, s1, s2⟩ := res3 (x := .slice none 0 0) (y := .slice none 0 0) (z := .slice none 0 0) HRr.out
    exact bodyPost_ret (v := .tuple #[zeroNet, .bool false]) (by simp [results, Try.results15, go_sem, hc, s0, s1, s2, zeroNet]) rfl ⟨HB9.out, .inr ⟨by rw [HO.out]; rfl, rfl⟩⟩
  | true =>
  cases g2 with
  | false =>
    go_upto_region 2 with (first | (go_at_call 21; refine (CN.out w1 HB1.out).mono ?_; rintro e w2 ⟨rfl, hb2⟩; have HB2 := Lib.hid (Below.then_ HB1.out hb2); have kb2 := (HK.out.below HB2.out).cell; have kn2 := (HE1.out.below HB2.out).cell; clear hb2) | (go_at_call 21; refine (CM.out wz (Below.refl _ _)).mono ?_; rintro e w1 ⟨rfl, hb1⟩; have HB1 := Lib.hid hb1; have kb1 := (HK.out.below HB1.out).cell; have kn1 := (HE1.out.below HB1.out).cell; clear hb1))
    have HRr := Lib.hid (HR.out.below HB2.out)
    have hc := (set3_blk (x := .slice none 0 0) (y := .slice none 0 0) (z := .slice none 0 0) HRr.out).cell
    unfold set3 at hc
    have kc := HRr.out.cell
    have kf := HRr.out.free
    have HB9 := Lib.hid (set3_below (p := w.heap.size + 2) (Below.then_ HB0.out HB2.out) (by omega) (.slice none 0 0) (.slice none 0 0) (.slice none 0 0))
    go_wp2_with fail
    obtain ⟨s0, s1, s2⟩ := res3 (x := .slice none 0 0) (y := .slice none 0 0) (z := .slice none 0 0) HRr.out
    exact bodyPost_ret (v := .tuple #[zeroNet, .bool false]) (by simp [results, Try.results15, go_sem, hc, s0, s1, s2, zeroNet]) rfl ⟨HB9.out, .inr ⟨by rw [HO.out]; rfl, rfl⟩⟩
  | true =>
  by_cases hbb : b1 = b2
  case neg =>
    have hne : (b1 == b2) = false := by simpa using hbb
    have hne2 : (b1 != b2) = true := by simp [bne, hne]
    have HO2 : Hid (unionOk M N = false) := Lib.hid (by rw [HO.out, hne]; rfl)
    clear hbb
    go_upto_region 2 with (first | (go_at_call 21; refine (CN.out w1 HB1.out).mono ?_; rintro e w2 ⟨rfl, hb2⟩; have HB2 := Lib.hid (Below.then_ HB1.out hb2); have kb2 := (HK.out.below HB2.out).cell; have kn2 := (HE1.out.below HB2.out).cell; clear hb2) | (go_at_call 21; refine (CM.out wz (Below.refl _ _)).mono ?_; rintro e w1 ⟨rfl, hb1⟩; have HB1 := Lib.hid hb1; have kb1 := (HK.out.below HB1.out).cell; have kn1 := (HE1.out.below HB1.out).cell; clear hb1))
    have HRr := Lib.hid (HR.out.below HB2.out)
    have hc := (set3_blk (x := .slice none 0 0) (y := .slice none 0 0) (z := .slice none 0 0) HRr.out).cell
    unfold set3 at hc
    have kc := HRr.out.cell
    have kf := HRr.out.free
    have HB9 := Lib.hid (set3_below (p := w.heap.size + 2) (Below.then_ HB0.out HB2.out) (by omega) (.slice none 0 0) (.slice none 0 0) (.slice none 0 0))
    go_wp2_with fail
    obtain ⟨s0, s1, s2⟩ := res3 (x := .slice none 0 0) (y := .slice none 0 0) (z := .slice none 0 0) HRr.out
    exact bodyPost_ret (v := .tuple #[zeroNet, .bool false]) (by simp [results, Try.results15, go_sem, hc, s0, s1, s2, zeroNet]) rfl ⟨HB9.out, .inr ⟨HO2.out, rfl⟩⟩
  case pos =>
    subst hbb
    have hne2 : (b1 != b1) = false := by simp [bne]
    have HO2 : Hid (unionOk M N = g4) := Lib.hid (by rw [HO.out]; simp)
    have hp : 1 ≤ M.ends.length := by have := inB_iff.1 (goodB_iff.1 HG1.out.symm).1; omega
    have hp' : 1 ≤ N.ends.length := by have := inB_iff.1 (goodB_iff.1 HG2.out.symm).1; omega
    have HSY := Lib.hid (endsOk_iff.1 (goodB_iff.1 HG2.out.symm).2.2.2.2).2
    go_upto_region 3 with (first | (go_at_call 21; refine (CN.out w1 HB1.out).mono ?_; rintro e w2 ⟨rfl, hb2⟩; have HB2 := Lib.hid (Below.then_ HB1.out hb2); have kb2 := (HK.out.below HB2.out).cell; have kn2 := (HE1.out.below HB2.out).cell; clear hb2) | (go_at_call 21; refine (CM.out wz (Below.refl _ _)).mono ?_; rintro e w1 ⟨rfl, hb1⟩; have HB1 := Lib.hid hb1; have kb1 := (HK.out.below HB1.out).cell; have kn1 := (HE1.out.below HB1.out).cell; clear hb1))
    clear ka kn kb1 kn1
    have hiu : (unionN M N).ids.length ≤ 2097152 := by show (M.ids ++ N.ids).length ≤ _; rw [List.length_append]; omega
    cases g4 with
    | false =>
      go_wp2_with (first
        | (go_at_call 25; refine (network_any (S := fun _ => True) _ (unionN M N) w3 (ho3.net (fun _ _ _ => trivial)) hiu).mono ?_; rintro e w4 ⟨hb4, rfl⟩; rw [← HG4.out]; have HRr := Lib.hid ((HR.out.below HB3.out).below hb4); have hc := (set3_blk (x := .slice none 0 0) (y := .slice none 0 0) (z := .slice none 0 0) HRr.out).cell; have kc := HRr.out.cell; have kf := HRr.out.free; have HB9 := Lib.hid (set3_below (p := w.heap.size + 2) (Below.then_ (Below.then_ HB0.out HB3.out) hb4) (by omega) (.slice none 0 0) (.slice none 0 0) (.slice none 0 0)); clear hb4 kb2 kn2)
        | (go_at_call 44; refine (joined_any _ _ M N w2 ((HM.out.below HB0.out).below HB2.out) ((HN.out.below HB0.out).below HB2.out) HS.out HS'.out hp hp' HSY.out).mono ?_; rintro e w3 ⟨v3, rfl, ho3, hb3⟩; have HB3 := Lib.hid (Below.then_ HB2.out hb3); have hz3 := HB3.out.size; obtain ⟨E0, e0, E1, e1, E2, e2, rfl⟩ := ho3.parts))
      obtain ⟨s0, s1, s2⟩ := res3 (x := .slice none 0 0) (y := .slice none 0 0) (z := .slice none 0 0) HRr.out
      unfold set3 at hc
      exact bodyPost_ret (v := .tuple #[zeroNet, .bool false]) (by simp [results, Try.results15, go_sem, hc, s0, s1, s2, zeroNet]) rfl ⟨HB9.out, .inr ⟨HO2.out, rfl⟩⟩
    | true =>
      go_wp2_with (first
        | (go_at_call 25; refine (network_any (S := fun _ => True) _ (unionN M N) w3 (ho3.net (fun _ _ _ => trivial)) hiu).mono ?_; rintro e w4 ⟨hb4, rfl⟩; rw [← HG4.out]; have HRr := Lib.hid ((HR.out.below HB3.out).below hb4); obtain ⟨q1, q2, q3⟩ := resStoreT HRr.out (by omega) (Below.then_ (Below.then_ HB0.out HB3.out) hb4) (ho3.below hb4) (by omega : w.heap.size ≤ w2.heap.size); have hc := q1.cell; have HFI := Lib.hid (And.intro q2 q3); have kc := HRr.out.cell; have kf := HRr.out.free; clear hb4 kb2 kn2 q1 q2 q3)
        | (go_at_call 44; refine (joined_any _ _ M N w2 ((HM.out.below HB0.out).below HB2.out) ((HN.out.below HB0.out).below HB2.out) HS.out HS'.out hp hp' HSY.out).mono ?_; rintro e w3 ⟨v3, rfl, ho3, hb3⟩; have HB3 := Lib.hid (Below.then_ HB2.out hb3); have hz3 := HB3.out.size; have hz2 := HB2.out.size; obtain ⟨E0, e0, E1, e1, E2, e2, rfl⟩ := ho3.parts))
      obtain ⟨s0, s1, s2⟩ := res3 (x := .slice E0 (unionN M N).ends.length e0) (y := .slice E1 (unionN M N).ids.length e1) (z := .slice E2 (unionN M N).inputs.length e2) HRr.out
      unfold set3 at hc
      exact bodyPost_ret (v := .tuple #[.agg #[.slice E0 (unionN M N).ends.length e0, .slice E1 (unionN M N).ids.length e1, .slice E2 (unionN M N).inputs.length e2], .bool true]) (by simp [results, Try.results15, go_sem, hc, s0, s1, s2]) rfl ⟨HFI.out.2, .inl ⟨HO2.out, _, rfl, HFI.out.1⟩⟩
end Go.Proofs.Ytkbhbbehidhknaa
