/- Parts of the proof, joined: Vm4, Vxt. -/
import Derived.Test.YtljjbhihllnnaaaGreatCVm3
import Derived.Test.YtljjbhihllnnaaaGreatCVm2
import Derived.Test.YtljjbhihllnnaaaGreatCJn23
import Derived.Test.YtljjbhihllnnaaaGreatCJn5
import Derived.Test.YtljjbhihllnnaaaGreatCJn1
import Derived.Deep.DeepCutAuto
namespace Go.Proofs.YtljjbhihllnnaaaGreat
open Go.RowKit

set_option maxHeartbeats 400000 in
theorem isDepth_any (t : Int) (w : World) : Calls Tryz.prog 47 #[.int .i64 t] w (RetQ w (.bool (inB t 0 80))) := by
  go_enter Tryz.func47, Tryz.ntmps47
  go_wp2_with (go_at_call 61; refine (within_any _ _ _ _).mono ?_; rintro e w1 ⟨rfl, rfl⟩)
  go_ret
  exact ⟨rfl, rfl⟩

theorem IntsR.sizedS {w : World} {S : Nat → Prop} {v : Value} {xs : List Int} (h : IntsR w S v xs) : IntsR w (fun b => b < w.heap.size) v xs := by
  obtain ⟨A, c, rfl, h1, h2, h3⟩ := h
  exact ⟨A, c, rfl, h1, h2, fun hp => by obtain ⟨b, off, e, -, hc⟩ := h3 hp; exact ⟨b, off, e, lt_of_cell (hc 0 hp), hc⟩⟩
theorem EndsR.sized {w : World} {S : Nat → Prop} {v : Value} {xs : List (Int × Int)} (h : EndsR w S v xs) : EndsR w (fun b => b < w.heap.size) v xs := by
  obtain ⟨A, c, rfl, h1, h2, h3⟩ := h
  exact ⟨A, c, rfl, h1, h2, fun hp => by obtain ⟨b, off, e, -, hc⟩ := h3 hp; exact ⟨b, off, e, lt_of_cell (hc 0 hp).1, hc⟩⟩
theorem EndSSR.sized {w : World} {S : Nat → Prop} {v : Value} {xs : List (List (Int × Int))} (h : EndSSR w S v xs) : EndSSR w (fun b => b < w.heap.size) v xs := by
  obtain ⟨A, c, rfl, h1, h2, h3⟩ := h
  refine ⟨A, c, rfl, h1, h2, fun hp => ?_⟩
  obtain ⟨b, off, e, -, hc⟩ := h3 hp
  refine ⟨b, off, e, ?_, fun j hj => ?_⟩
  · obtain ⟨u, hu, -⟩ := hc 0 hp; exact lt_of_cell hu
  · obtain ⟨u, hu, hr⟩ := hc j hj; exact ⟨u, hu, hr.sized⟩
theorem NetR.sized_ {w : World} {S : Nat → Prop} {v : Value} {N : Net} (h : NetR w S v N) : NetR w (fun b => b < w.heap.size) v N := by
  obtain ⟨ve, vi, vn, rfl, h1, h2, h3⟩ := h
  exact ⟨ve, vi, vn, rfl, h1.sized, h2.sizedS, h3.sizedS⟩
theorem whT_le {N : Net} (hg : goodB N = true) (v p : Nat) : whT N v p ≤ p + 22 := by
  unfold whT
  by_cases hv : v < N.ends.length
  · have := (good_row hg hv).1
    split <;> omega
  · have : gl N.ends v = [] := by simp [gl, Nat.le_of_not_lt hv]
    simp [this]

set_option maxRecDepth 100000 in
set_option maxHeartbeats 2000000 in
theorem ViewText_any {S : Nat → Prop} (vN : Value) (N : Net) (v t : Nat) (w : World) (h : NetR w S vN N) (hg : goodB N = true) (hid : N.ids.length ≤ 2097152) (hv : v < N.ends.length) (ht : t ≤ 80) :
    Calls Tryz.prog 8 #[vN, .int .i64 (v : Nat), .int .i64 (t : Nat)] w (RetV w (.tuple #[.string (vtx N t v), .bool (decide ((ntx N t v).length ≤ 4000))])) := by
  have HNR := Lib.hid h
  have HG := Lib.hid hg
  have hn40 : N.ends.length ≤ 40 := (good_row hg hv).2.2.1
  obtain ⟨ve, vi, vn, rfl, he, hi, hn⟩ := h
  obtain ⟨A, c, rfl, -, -, -⟩ := he
  obtain ⟨A1, c1, rfl, -, -, -⟩ := hi
  obtain ⟨A2, c2, rfl, -, -, -⟩ := hn
  have HK0 := Lib.hid (Blk.new w 27 #[.slice A N.ends.length c, .slice A1 N.ids.length c1, .slice A2 N.inputs.length c2])
  have HB0 := Lib.hid ((Below.refl w.heap.size w).alloc (Nat.le_refl _) (.cells #[.slice A N.ends.length c, .slice A1 N.ids.length c1, .slice A2 N.inputs.length c2] 27))
  have hnd : inB (v : Int) 0 ((N.ends.length : Int) - 1) = true := inB_iff.2 ⟨by omega, by omega⟩
  have htd : inB (t : Int) 0 80 = true := inB_iff.2 ⟨by omega, by omega⟩
  have HND := Lib.hid hnd
  have HTD := Lib.hid htd
  clear hg hnd htd
  go_enter Tryz.func8, Tryz.ntmps8
  go_upto_region 4 with (first
    | (go_at_call 45; refine (IsNetwork_any _ N _ (HNR.out.below HB0.out) hid).mono ?_; rw [HG.out]; rintro e w1 ⟨rfl, hb1⟩; have HB1 := Lib.hid (Below.then_ HB0.out hb1); have HK1 := Lib.hid (HK0.out.below hb1); have k1 := HK1.out.cell; clear hb1)
    | (go_at_call 46; refine (hasNode_any A N.ends.length c _ _ v _ (by omega)).mono ?_; rw [HND.out]; rintro e w2 ⟨rfl, hb2⟩; have HB2 := Lib.hid (Below.then_ HB1.out hb2); have HK2 := Lib.hid (HK1.out.below hb2); clear hb2)
    | (go_at_call 47; refine (isDepth_any t _).mono ?_; rw [HTD.out]; rintro e w3 ⟨rfl, rfl⟩; have k2 := HK2.out.cell; clear k1)
    | (go_at_call 48; refine (viewAmounts_any _ N t 4001 3 (whT N) _ _ #[] #[.pointer (some ⟨w.heap.size, 0, none⟩)] _ (HNR.out.below HB2.out) HG.out (by omega) (by omega) (by omega) (by omega) (vt1_any _) (vt2_any _ _ _ N _ _ (HNR.out.below HB2.out) HG.out HK2.out) (fun v p hp => by have := whT_le HG.out v p; omega)).mono ?_; rintro e w4 ⟨vl, rfl, hol, hb4⟩; have HOL := Lib.hid hol; have HB4 := Lib.hid (Below.then_ HB2.out hb4); have HK4 := Lib.hid (HK2.out.below hb4); obtain ⟨Al, cl, rfl⟩ := hol.shape; clear hb4 hol k2))
  obtain ⟨La, hLa⟩ : ∃ La, La = (ntx N t v).length := ⟨_, rfl⟩
  have hlc : ∃ bl offl, Al = some ⟨bl, offl, none⟩ ∧ w4.cell? ⟨bl, offl + v, none⟩ = some (.int .i64 (min La 4001 : Nat)) := by
    obtain ⟨Ax, cx, hv', -, -, hxx⟩ := HOL.out.ints
    simp only [List.length_map, List.length_range, Value.slice.injEq, true_and] at hv' hxx
    obtain ⟨rfl, rfl⟩ := hv'
    obtain ⟨bl, offl, rfl, -, hcl⟩ := hxx (by omega)
    refine ⟨bl, offl, rfl, ?_⟩
    rw [hcl v hv, hLa, ← amt_ntx]
    simp [gi, hv]
  obtain ⟨bl, offl, rfl, hcl⟩ := hlc
  have HLA := Lib.hid hLa
  have i0 : (0 : Int) ≤ (v : Int) := by omega
  have i1 : (v : Int) < (N.ends.length : Int) := by omega
  simp only [List.length_map, List.length_range] at *
  clear hLa
  by_cases hlong : La ≤ 4000
  · have hm : min La 4001 = La := by omega
    have HD : Hid (decide ((ntx N t v).length ≤ 4000) = true) := Lib.hid (by rw [← HLA.out]; simpa using hlong)
    have HVX : Hid (vtx N t v = strB (ntx N t v)) := Lib.hid (by unfold vtx; rw [if_pos (by rw [← HLA.out]; exact hlong)])
    rw [hm] at hcl
    have g1 : ¬ (4000 : Int) < (La : Int) := by omega
    have k4 := HK4.out.cell
    have HA5 := Lib.hid ((Below.refl w4.heap.size w4).alloc (Nat.le_refl _) (.cells #[.pointer none, .slice none 0 0] 86))
    have HBD : Hid (BldR (w4.alloc (.cells #[.pointer none, .slice none 0 0] 86)) w4.heap.size w4.heap.size []) := Lib.hid (.inl ⟨Nat.le_refl _, .slice none 0 0, Blk.new _ _ _, OwnG.nil, by simp [Value.ownBlock]⟩)
    have HN5 : Hid (NetR (w4.alloc (.cells #[.pointer none, .slice none 0 0] 86)) (fun q => q < w4.heap.size) (.agg #[.slice A N.ends.length c, .slice A1 N.ids.length c1, .slice A2 N.inputs.length c2]) N) := Lib.hid (NetR.keep (NetR.sized_ (HNR.out.below HB4.out)) (fun _ h => h) (fun q hq _ => HA5.out.block q hq))
    have hz4 : w.heap.size < w4.heap.size := HK4.out.lt
    have hlen : ([] : List UInt8).length + (ntx N t v).length ≤ 4000 := by rw [← HLA.out]; simpa using hlong
    have HLE := Lib.hid hlen
    clear hm hlong hlen
    go_wp2_with (first
      | (go_at_call 51; refine (writeView_any N HG.out (t + 1) t _ _ w4.heap.size w4.heap.size v [] (by omega) HN5.out hv HLE.out (by omega) HBD.out (by simp)).mono ?_; rintro e w5 ⟨⟨rfl, hb5, hl5⟩, -⟩; have HB5 := Lib.hid hb5; have HL5 := Lib.hid (HA5.out.trans hl5); clear hb5 hl5)
      | (go_at_call 52; refine (Tryz.Builder_String_any w4.heap.size w4.heap.size (ntx N t v) _ (BldR.lib (.inr (by simpa using HB5.out))) HL5.out.size).mono ?_; rintro e w6 ⟨rfl, hb6⟩; have HL6 := Lib.hid (HL5.out.trans hb6); clear hb6))
    go_ret2
    exact ⟨by rw [HD.out, HVX.out]; rfl, Below.then_ HB4.out HL6.out⟩
  · have hm : min La 4001 = 4001 := by omega
    have HD : Hid (decide ((ntx N t v).length ≤ 4000) = false) := Lib.hid (by rw [← HLA.out]; simpa using hlong)
    have HVX : Hid (vtx N t v = strB []) := Lib.hid (by unfold vtx; rw [if_neg (by rw [← HLA.out]; exact hlong)])
    rw [hm] at hcl
    clear hm hlong
    go_wp2_with fail
    go_ret2
    exact ⟨by rw [HD.out, HVX.out]; rfl, HB4.out⟩
end Go.Proofs.YtljjbhihllnnaaaGreat

namespace Go.Proofs.YtljjbhihllnnaaaGreat
open Go.RowKit

/-- the arguments are right -/
noncomputable def vwOk (N : Net) (v t : Int) : Bool := goodB N && (inB v 0 ((N.ends.length : Int) - 1) && inB t 0 80)
/-- the text, empty if there is none -/
noncomputable def vwS (N : Net) (v t : Int) : ByteArray := if vwOk N v t = true then vtx N t.toNat v.toNat else strB []
noncomputable def vwB (N : Net) (v t : Int) : Bool := vwOk N v t && decide ((ntx N t.toNat v.toNat).length ≤ 4000)
theorem vw_no {N : Net} {v t : Int} (h : vwOk N v t = false) : vwS N v t = strB [] ∧ vwB N v t = false := by
  unfold vwS vwB
  rw [h]
  exact ⟨rfl, rfl⟩
theorem vw_yes {N : Net} {v t : Nat} (h : vwOk N v t = true) : vwS N v t = vtx N t v ∧ vwB N v t = decide ((ntx N t v).length ≤ 4000) := by
  unfold vwS vwB
  rw [h]
  simp
theorem vwOk_spec {N : Net} {v t : Int} (h : vwOk N v t = true) : ∃ a k : Nat, v = a ∧ t = k ∧ a < N.ends.length ∧ k ≤ 80 ∧ goodB N = true := by
  unfold vwOk at h
  simp only [Bool.and_eq_true] at h
  obtain ⟨h1, h2, h3⟩ := h
  have h2 := inB_iff.1 h2
  have h3 := inB_iff.1 h3
  exact ⟨v.toNat, t.toNat, by omega, by omega, by omega, by omega, h1⟩
theorem empty_str : strB [] = ({ data := #[] } : ByteArray) := rfl

set_option maxRecDepth 100000 in
set_option maxHeartbeats 2000000 in
theorem ViewText_all {S : Nat → Prop} (u : Value) (N : Net) (v t : Int) (w : World) (h : NetR w S u N) (hs : Small N) :
    Calls Tryz.prog 8 #[u, .int .i64 v, .int .i64 t] w (RetV w (.tuple #[.string (vwS N v t), .bool (vwB N v t)])) := by
  cases hok : vwOk N v t with
  | true =>
    obtain ⟨a, k, rfl, rfl, ha, hk, hg⟩ := vwOk_spec hok
    obtain ⟨e1, e2⟩ := vw_yes hok
    rw [e1, e2]
    exact ViewText_any u N a k w h hg (by have := hs.2.2.1; omega) ha hk
  | false =>
    obtain ⟨e1, e2⟩ := vw_no hok
    rw [e1, e2]
    have hid := hs.2.2.1
    have hsl := hs.1
    have HN := Lib.hid h
    obtain ⟨ve, vi, vn, rfl, he, hi, hn⟩ := h
    obtain ⟨A, c, rfl, -, -, -⟩ := he
    obtain ⟨A1, c1, rfl, -, -, -⟩ := hi
    obtain ⟨A2, c2, rfl, -, -, -⟩ := hn
    have HB0 := Lib.hid ((Below.refl w.heap.size w).alloc (Nat.le_refl _) (.cells #[.slice A N.ends.length c, .slice A1 N.ids.length c1, .slice A2 N.inputs.length c2] 27))
    have HK0 := Lib.hid (Blk.new w 27 #[.slice A N.ends.length c, .slice A1 N.ids.length c1, .slice A2 N.inputs.length c2])
    have CN := Lib.hid (fun W (hW : Below w.heap.size w W) => IsNetwork_any _ N W (HN.out.below hW) (by omega))
    have CV := Lib.hid (fun W => hasNode_any A N.ends.length c (.slice A1 N.ids.length c1) (.slice A2 N.inputs.length c2) v W (by omega))
    have CD := Lib.hid (fun W => isDepth_any t W)
    unfold vwOk at hok
    obtain ⟨g1, hg1⟩ : ∃ g, g = goodB N := ⟨_, rfl⟩
    obtain ⟨g2, hg2⟩ : ∃ g, g = inB v 0 ((N.ends.length : Int) - 1) := ⟨_, rfl⟩
    obtain ⟨g3, hg3⟩ : ∃ g, g = inB t 0 80 := ⟨_, rfl⟩
    rw [← hg1, ← hg2, ← hg3] at hok
    rw [← hg1] at CN
    rw [← hg2] at CV
    rw [← hg3] at CD
    clear hg1 hg2 hg3 e1 e2 hs
    cases g1 with
    | false =>
      go_enter Tryz.func8, Tryz.ntmps8
      go_upto_region 1 with fail
      generalize w.alloc (.cells #[.slice A N.ends.length c, .slice A1 N.ids.length c1, .slice A2 N.inputs.length c2] 27) = w0 at *
      have k0 := HK0.out.cell
      go_wp2_with (go_at_call 45; refine (CN.out _ HB0.out).mono ?_; rintro e w1 ⟨rfl, hb1⟩; have HB1 := Lib.hid (Below.then_ HB0.out hb1); have k1 := (HK0.out.below hb1).cell; clear hb1)
      exact bodyPost_ret (v := .tuple #[.string (strB []), .bool false]) (by simp [results, Tryz.results8, go_sem, empty_str]) rfl ⟨rfl, HB1.out⟩
    | true =>
      cases g2 with
      | false =>
        go_enter Tryz.func8, Tryz.ntmps8
        go_upto_region 1 with fail
        generalize w.alloc (.cells #[.slice A N.ends.length c, .slice A1 N.ids.length c1, .slice A2 N.inputs.length c2] 27) = w0 at *
        have k0 := HK0.out.cell
        go_wp2_with (first | (go_at_call 46; refine (CV.out w1).mono ?_; rintro e w2 ⟨rfl, hb2⟩; have HB2 := Lib.hid (Below.then_ HB1.out hb2); clear hb2) | (go_at_call 45; refine (CN.out _ HB0.out).mono ?_; rintro e w1 ⟨rfl, hb1⟩; have HB1 := Lib.hid (Below.then_ HB0.out hb1); have k1 := (HK0.out.below hb1).cell; clear hb1))
        exact bodyPost_ret (v := .tuple #[.string (strB []), .bool false]) (by simp [results, Tryz.results8, go_sem, empty_str]) rfl ⟨rfl, HB2.out⟩
      | true =>
        cases g3 with
        | true => simp at hok
        | false =>
          go_enter Tryz.func8, Tryz.ntmps8
          go_upto_region 1 with fail
          generalize w.alloc (.cells #[.slice A N.ends.length c, .slice A1 N.ids.length c1, .slice A2 N.inputs.length c2] 27) = w0 at *
          have k0 := HK0.out.cell
          go_wp2_with (first | (go_at_call 47; refine (CD.out w2).mono ?_; rintro e wq ⟨rfl, rfl⟩) | (go_at_call 46; refine (CV.out w1).mono ?_; rintro e w2 ⟨rfl, hb2⟩; have HB2 := Lib.hid (Below.then_ HB1.out hb2); clear hb2) | (go_at_call 45; refine (CN.out _ HB0.out).mono ?_; rintro e w1 ⟨rfl, hb1⟩; have HB1 := Lib.hid (Below.then_ HB0.out hb1); have k1 := (HK0.out.below hb1).cell; clear hb1))
          exact bodyPost_ret (v := .tuple #[.string (strB []), .bool false]) (by simp [results, Tryz.results8, go_sem, empty_str]) rfl ⟨rfl, HB2.out⟩

set_option maxRecDepth 100000 in
set_option maxHeartbeats 1000000 in
theorem viDepth_any (t : Int) (w : World) : Calls Tryz.prog 54 #[.int .i64 t] w (RetQ w (.bool (inB t 0 80))) := by
  go_enter Tryz.func54, Tryz.ntmps54
  go_wp2_with (go_at_call 101; refine (l1In_any _ _ _ _).mono ?_; rintro e w1 ⟨rfl, rfl⟩)
  go_ret
  exact ⟨rfl, rfl⟩

set_option maxRecDepth 100000 in
set_option maxHeartbeats 2000000 in
theorem specViewText_all {S : Nat → Prop} (u : Value) (N : Net) (v t : Int) (w : World) (h : NetR w S u N) (hs : Small N) :
    Calls Tryz.prog 9 #[u, .int .i64 v, .int .i64 t] w (RetV w (.tuple #[.string (vwS N v t), .bool (vwB N v t)])) := by
  have HN := Lib.hid h
  have CN := Lib.hid (fun W (hW : Below w.heap.size w W) => neNode_any u N v W (HN.out.below hW))
  have CD := Lib.hid (fun W => viDepth_any t W)
  obtain ⟨ve, vi, vn, rfl, -, -, -⟩ := h
  have HK0 := Lib.hid (Blk.new w 27 #[ve, vi, vn])
  have HB0 := Lib.hid ((Below.refl w.heap.size w).alloc (Nat.le_refl _) (.cells #[ve, vi, vn] 27))
  cases hok : vwOk N v t with
  | true =>
    obtain ⟨a, k, rfl, rfl, ha, hk, hg⟩ := vwOk_spec hok
    obtain ⟨e1, e2⟩ := vw_yes hok
    rw [e1, e2]
    have hn : nodeB N (a : Int) = true := by unfold nodeB; rw [hg, inB_iff.2 (by omega)]; rfl
    have hd : inB (k : Int) 0 80 = true := inB_iff.2 (by omega)
    rw [hn] at CN
    rw [hd] at CD
    have CT := Lib.hid (fun W (hW : Below w.heap.size w W) => viTexts_any _ N k W (HN.out.below hW) hg (by omega) (by omega))
    obtain ⟨s, hsx⟩ : ∃ s, s = vtx N k a := ⟨_, rfl⟩
    have HSX := Lib.hid hsx
    have i1 : (0 : Int) ≤ (a : Int) := by omega
    have i2 : (a : Int) < (N.ends.length : Int) := by omega
    have hgl : (vtx N k a).size = 0 ↔ 4000 < (ntx N k a).length := vtx_empty
    rw [← hsx] at hgl ⊢
    clear hok e1 e2 hn hd hsx hs hg
    by_cases hem : s.size = 0
    · have HD : Hid (decide ((ntx N k a).length ≤ 4000) = false) := Lib.hid (by
        have := hgl.1 hem
        simpa using this)
      have e3 : s.toList.isEmpty = true := empty_size.2 hem
      clear hgl hem
      go_enter Tryz.func9, Tryz.ntmps9
      go_upto_region 1 with fail
      have hz0 : (w.alloc (.cells #[ve, vi, vn] 27)).heap.size = w.heap.size + 1 := by simp
      generalize w.alloc (.cells #[ve, vi, vn] 27) = w0 at *
      have k0 := HK0.out.cell
      go_upto_region 3 with (first
        | (go_at_call 53; refine (CN.out w0 HB0.out).mono ?_; rintro e w1 ⟨rfl, hb1⟩; have HB1 := Lib.hid (Below.then_ HB0.out hb1); have k1 := (HK0.out.below hb1).cell; clear hb1)
        | (go_at_call 54; refine (CD.out w1).mono ?_; rintro e wq ⟨rfl, rfl⟩))
      clear k0
      go_upto_region 4 with (go_at_call 55; refine (CT.out w1 HB1.out).mono ?_; rintro e w2 ⟨At, ct, rfl, hot, hb2⟩; have HB2 := Lib.hid (Below.then_ HB1.out hb2); obtain ⟨-, bt, ot, rfl, -, -, hct⟩ := (hot.slr (S := fun _ => True) (fun _ _ _ => trivial)).atS (by simp; omega); have e4 := hct a (by simpa using ha); rw [ga_lt (by simpa using ha)] at e4; simp only [List.getElem_map, List.getElem_range] at e4; rw [← HSX.out] at e4; clear hb2 hot hct)
      go_wp2_with fail
      go_ret2
      exact ⟨by rw [HD.out]; rfl, HB2.out⟩
    · have HD : Hid (decide ((ntx N k a).length ≤ 4000) = true) := Lib.hid (by
        have : ¬ 4000 < (ntx N k a).length := fun e => hem (hgl.2 e)
        simp; omega)
      have e3 : s.toList.isEmpty = false := by rw [← Bool.not_eq_true]; exact fun e => hem (empty_size.1 e)
      clear hgl hem
      go_enter Tryz.func9, Tryz.ntmps9
      go_upto_region 1 with fail
      have hz0 : (w.alloc (.cells #[ve, vi, vn] 27)).heap.size = w.heap.size + 1 := by simp
      generalize w.alloc (.cells #[ve, vi, vn] 27) = w0 at *
      have k0 := HK0.out.cell
      go_upto_region 3 with (first
        | (go_at_call 53; refine (CN.out w0 HB0.out).mono ?_; rintro e w1 ⟨rfl, hb1⟩; have HB1 := Lib.hid (Below.then_ HB0.out hb1); have k1 := (HK0.out.below hb1).cell; clear hb1)
        | (go_at_call 54; refine (CD.out w1).mono ?_; rintro e wq ⟨rfl, rfl⟩))
      clear k0
      go_upto_region 4 with (go_at_call 55; refine (CT.out w1 HB1.out).mono ?_; rintro e w2 ⟨At, ct, rfl, hot, hb2⟩; have HB2 := Lib.hid (Below.then_ HB1.out hb2); obtain ⟨-, bt, ot, rfl, -, -, hct⟩ := (hot.slr (S := fun _ => True) (fun _ _ _ => trivial)).atS (by simp; omega); have e4 := hct a (by simpa using ha); rw [ga_lt (by simpa using ha)] at e4; simp only [List.getElem_map, List.getElem_range] at e4; rw [← HSX.out] at e4; clear hb2 hot hct)
      go_wp2_with fail
      go_ret2
      exact ⟨by rw [HD.out]; rfl, HB2.out⟩
  | false =>
    obtain ⟨e1, e2⟩ := vw_no hok
    rw [e1, e2]
    have hok2 : (nodeB N v && inB t 0 80) = false := by
      have := hok
      unfold vwOk at this
      unfold nodeB
      rw [Bool.and_assoc]
      exact this
    obtain ⟨g1, hg1⟩ : ∃ g, g = nodeB N v := ⟨_, rfl⟩
    obtain ⟨g3, hg3⟩ : ∃ g, g = inB t 0 80 := ⟨_, rfl⟩
    rw [← hg1, ← hg3] at hok2
    rw [← hg1] at CN
    rw [← hg3] at CD
    clear hg1 hg3 e1 e2 hs hok
    cases g1 with
    | false =>
      go_enter Tryz.func9, Tryz.ntmps9
      go_upto_region 1 with fail
      generalize w.alloc (.cells #[ve, vi, vn] 27) = w0 at *
      have k0 := HK0.out.cell
      go_wp2_with (go_at_call 53; refine (CN.out w0 HB0.out).mono ?_; rintro e w1 ⟨rfl, hb1⟩; have HB1 := Lib.hid (Below.then_ HB0.out hb1); clear hb1)
      exact bodyPost_ret (v := .tuple #[.string (strB []), .bool false]) (by simp [results, Tryz.results9, go_sem, empty_str]) rfl ⟨rfl, HB1.out⟩
    | true =>
      cases g3 with
      | true => simp at hok2
      | false =>
        go_enter Tryz.func9, Tryz.ntmps9
        go_upto_region 1 with fail
        generalize w.alloc (.cells #[ve, vi, vn] 27) = w0 at *
        have k0 := HK0.out.cell
        go_wp2_with (first
          | (go_at_call 53; refine (CN.out w0 HB0.out).mono ?_; rintro e w1 ⟨rfl, hb1⟩; have HB1 := Lib.hid (Below.then_ HB0.out hb1); clear hb1)
          | (go_at_call 54; refine (CD.out w1).mono ?_; rintro e wq ⟨rfl, rfl⟩))
        exact bodyPost_ret (v := .tuple #[.string (strB []), .bool false]) (by simp [results, Tryz.results9, go_sem, empty_str]) rfl ⟨rfl, HB1.out⟩
end Go.Proofs.YtljjbhihllnnaaaGreat
