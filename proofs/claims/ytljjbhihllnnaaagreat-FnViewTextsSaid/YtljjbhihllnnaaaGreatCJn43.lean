/- Parts of the proof, joined: Vsv, Vsw, Vlp. -/
import Derived.Test.YtljjbhihllnnaaaGreatCVca
import Derived.Test.YtljjbhihllnnaaaGreatCIm4
import Derived.Test.YtljjbhihllnnaaaGreatCPn6
import Derived.Test.YtljjbhihllnnaaaGreatCJn40
import Derived.Deep.DeepCutAuto
import Derived.Test.YtljjbhihllnnaaaGreatCVpf
import Derived.Test.YtljjbhihllnnaaaGreatCJn4
namespace Go.Proofs.YtljjbhihllnnaaaGreat
open Go.RowKit
attribute [local go_sem] BW.cell BW.frozen

theorem clsK_bound {k : Nat → List Int} {n : Nat} (hn : n ≤ 1000) : ∀ x ∈ clsK k n, 0 ≤ x ∧ x ≤ 1048576 := fun x hx => by
  obtain ⟨v, hv, rfl⟩ := List.mem_map.1 hx
  have h1 := nm_lt (k := k) (List.mem_range.1 hv)
  have h2 := cnB_le k n
  omega
set_option maxRecDepth 100000 in
set_option maxHeartbeats 2000000 in
theorem classesAt_any {S : Nat → Prop} (u : Value) (N : Net) (t : Nat) (w : World) (h : NetR w S u N) (hf : Fine N) (hin : N.inputs.length = N.ends.length) (hl : N.ends.length ≤ 1000) (hp : 0 < N.ends.length) (ht : t ≤ 80) :
    Calls Tryz.prog 57 #[u, .int .i64 (t : Nat)] w (RetI w (vcls N t)) := by
  have HN := Lib.hid h
  have HF := Lib.hid hf
  obtain ⟨ve, vi, vn, rfl, -, -, -⟩ := h
  have HB0 := Lib.hid ((Below.refl w.heap.size w).alloc (Nat.le_refl _) (.cells #[ve, vi, vn] 27))
  have HK0 := Lib.hid (Blk.new w 27 #[ve, vi, vn])
  have CV0 := Lib.hid (fun W (hW : Below w.heap.size w W) => viewClasses_any (S := S) (S' := fun _ => True) (.agg #[ve, vi, vn]) (.slice none 0 0) N none W (HN.out.below hW) HF.out hin hl hp rfl)
  have CV := Lib.hid (fun W k cv (hW : Below w.heap.size w W) (hc : IntsR W (fun b => w.heap.size ≤ b) cv (vcls N k)) => viewClasses_any (S := S) (.agg #[ve, vi, vn]) cv N (some (vcls N k)) W (HN.out.below hW) HF.out hin hl hp ⟨hc, vcls_len N k, by rw [vcls_eq]; exact clsK_bound hl⟩)
  clear hf hin hl hp
  go_enter Tryz.func57, Tryz.ntmps57
  go_upto_region 1 with fail
  have hz0 : (w.alloc (.cells #[ve, vi, vn] 27)).heap.size = w.heap.size + 1 := by simp
  generalize w.alloc (.cells #[ve, vi, vn] 27) = w0 at *
  have k0 := HK0.out.cell
  go_upto_region 2 with (go_at_call 113; refine (CV0.out _ HB0.out).mono ?_; rintro e w1 ⟨v1, rfl, ho1, hb1⟩)
  clear k0
  have HO1 := Lib.hid (ho1.mono (by omega : w.heap.size ≤ w0.heap.size))
  have HB1 := Lib.hid (Below.then_ HB0.out hb1)
  have HK1 := Lib.hid (HK0.out.below hb1)
  clear ho1 hb1
  go_wp2_with fail
  go_loopw [9, 5] (fun x9 x5 wr => ∃ k : Nat, k ≤ t ∧ x9 = .int .i64 k ∧ OwnI wr w.heap.size x5 (vcls N k) ∧ Below w.heap.size w wr ∧ Blk wr w.heap.size 27 #[ve, vi, vn]) (fun x9 _ _ => t - (intOf x9).toNat)
  case atStart => exact ⟨0, Nat.zero_le _, rfl, HO1.out, HB1.out, HK1.out⟩
  case round =>
    clear HO1 HB1 HK1
    obtain ⟨k, hk, rfl, hown, hbel, hkb⟩ := hrel
    obtain ⟨wr2, rfl⟩ : ∃ wr2, wr2 = wr := ⟨_, rfl⟩
    have HO := Lib.hid hown
    have HB := Lib.hid hbel
    have HK := Lib.hid hkb
    clear hown hbel hkb
    by_cases hlt : k < t
    · have jv2 : (k : Int) < (t : Int) := by omega
      have kk := HK.out.cell
      have hz := HB.out.size
      go_wp2_with (go_at_call 113; refine (CV.out _ k _ HB.out HO.out.ints).mono ?_; rintro e w2 ⟨v2, rfl, ho2, hb2⟩; have HO2 : Hid (OwnI w2 w.heap.size v2 (vcls N (k + 1))) := Lib.hid (ho2.mono hz); have HB2 := Lib.hid (Below.then_ HB.out hb2); have HK2 := Lib.hid (HK.out.below hb2); clear ho2 hb2 kk)
      go_roundw
      case rel => exact ⟨k + 1, by omega, by go_num, HO2.out, HB2.out, HK2.out⟩
      case measure => simp [intOf]; omega
    · obtain rfl : k = t := by omega
      have jx : ¬ ((k : Int) < (k : Int)) := by omega
      go_wp2_with fail
      go_ret
      exact ⟨_, rfl, HO.out, HB.out⟩
end Go.Proofs.YtljjbhihllnnaaaGreat

namespace Go.Proofs.YtljjbhihllnnaaaGreat
open Go.RowKit
attribute [local go_sem] BW.cell BW.frozen

set_option maxRecDepth 100000 in
set_option maxHeartbeats 2000000 in
theorem nodesOk_any {S S' : Nat → Prop} (u u' : Value) (M N : Net) (a b : Nat) (w : World) (h : NetR w S u M) (h' : NetR w S' u' N) (hgM : goodB M = true) (hgN : goodB N = true) (hiM : M.ids.length ≤ 2097152) (hiN : N.ids.length ≤ 2097152) (ha : a < M.ends.length) (hb : b < N.ends.length) (hlM : M.ends.length ≤ 40) (hlN : N.ends.length ≤ 40) :
    Calls Tryz.prog 56 #[u, .int .i64 (a : Nat), u', .int .i64 (b : Nat)] w (RetV w (.bool true)) := by
  have HM := Lib.hid h
  have HN := Lib.hid h'
  obtain ⟨ve, vi, vn, rfl, he, hi, hn⟩ := h
  obtain ⟨A, c, rfl, -, -, -⟩ := he
  obtain ⟨A1, c1, rfl, -, -, -⟩ := hi
  obtain ⟨A2, c2, rfl, -, -, -⟩ := hn
  obtain ⟨ve, vi, vn, rfl, he, hi, hn⟩ := h'
  obtain ⟨B, d, rfl, -, -, -⟩ := he
  obtain ⟨B1, d1, rfl, -, -, -⟩ := hi
  obtain ⟨B2, d2, rfl, -, -, -⟩ := hn
  obtain ⟨wz, hwz⟩ : ∃ wz, wz = ((w.alloc (.cells #[.slice A M.ends.length c, .slice A1 M.ids.length c1, .slice A2 M.inputs.length c2] 27)).alloc (.cells #[.slice B N.ends.length d, .slice B1 N.ids.length d1, .slice B2 N.inputs.length d2] 27)) := ⟨_, rfl⟩
  have hzs : wz.heap.size = w.heap.size + 2 := by rw [hwz]; simp
  have hbz : Below w.heap.size w wz := by rw [hwz]; exact ((Below.refl _ _).alloc (Nat.le_refl _) _).alloc (by simp) _
  have HK0 : Hid (Blk wz w.heap.size 27 #[.slice A M.ends.length c, .slice A1 M.ids.length c1, .slice A2 M.inputs.length c2]) := Lib.hid (by rw [hwz]; exact (Blk.new w _ _).alloc _)
  have HK1 : Hid (Blk wz (w.heap.size + 1) 27 #[.slice B N.ends.length d, .slice B1 N.ids.length d1, .slice B2 N.inputs.length d2]) := Lib.hid (by
    rw [hwz]
    have := Blk.new (w.alloc (.cells #[.slice A M.ends.length c, .slice A1 M.ids.length c1, .slice A2 M.inputs.length c2] 27)) 27 #[.slice B N.ends.length d, .slice B1 N.ids.length d1, .slice B2 N.inputs.length d2]
    rwa [World.size_alloc] at this)
  have HB0 := Lib.hid hbz
  have HZ := Lib.hid hwz
  have CM := Lib.hid (fun W (hW : Below w.heap.size w W) => IsNetwork_any _ M W (HM.out.below hW) hiM)
  have CN := Lib.hid (fun W (hW : Below w.heap.size w W) => IsNetwork_any _ N W (HN.out.below hW) hiN)
  have CA := Lib.hid (fun W => hasNode_any A M.ends.length c (.slice A1 M.ids.length c1) (.slice A2 M.inputs.length c2) (a : Int) W (by omega))
  have CB := Lib.hid (fun W => hasNode_any B N.ends.length d (.slice B1 N.ids.length d1) (.slice B2 N.inputs.length d2) (b : Int) W (by omega))
  have i1 : inB (a : Int) 0 ((M.ends.length : Int) - 1) = true := inB_iff.2 (by omega)
  have i2 : inB (b : Int) 0 ((N.ends.length : Int) - 1) = true := inB_iff.2 (by omega)
  rw [hgM] at CM
  rw [hgN] at CN
  rw [i1] at CA
  rw [i2] at CB
  clear hwz hbz hgM hgN i1 i2
  go_enter Tryz.func56, Tryz.ntmps56
  go_upto_region 1 with fail
  rw [← HZ.out]
  clear HZ
  have k0 := HK0.out.cell
  have k1 := HK1.out.cell
  go_wp2_with (first
    | (go_at_call 46; refine (CB.out w3).mono ?_; rintro e w4 ⟨rfl, hb4⟩; have HB4 := Lib.hid (Below.then_ HB3.out hb4); clear hb4)
    | (go_at_call 46; refine (CA.out w2).mono ?_; rintro e w3 ⟨rfl, hb3⟩; have HB3 := Lib.hid (Below.then_ HB2.out hb3); have k6 := (HK0.out.below (Below.then_ HZ2.out hb3)).cell; have k7 := (HK1.out.below (Below.then_ HZ2.out hb3)).cell; clear hb3)
    | (go_at_call 45; refine (CN.out w1 HB1.out).mono ?_; rintro e w2 ⟨rfl, hb2⟩; have HB2 := Lib.hid (Below.then_ HB1.out hb2); have HZ2 := Lib.hid (Below.then_ HZ1.out hb2); have k4 := (HK0.out.below HZ2.out).cell; have k5 := (HK1.out.below HZ2.out).cell; clear hb2)
    | (go_at_call 45; refine (CM.out wz HB0.out).mono ?_; rintro e w1 ⟨rfl, hb1⟩; have HB1 := Lib.hid (Below.then_ HB0.out hb1); have HZ1 := Lib.hid hb1; have k2 := (HK0.out.below hb1).cell; have k3 := (HK1.out.below hb1).cell; clear hb1))
  exact bodyPost_ret (v := .bool true) (by simp [results, Tryz.results56, go_sem]) rfl ⟨rfl, HB4.out⟩

set_option maxRecDepth 100000 in
set_option maxHeartbeats 2000000 in
theorem SameView_any {S S' : Nat → Prop} (u u' : Value) (M N : Net) (a b t : Nat) (w : World) (h : NetR w S u M) (h' : NetR w S' u' N) (hgM : goodB M = true) (hgN : goodB N = true) (hsM : Small M) (hsN : Small N) (ha : a < M.ends.length) (hb : b < N.ends.length) (ht : t ≤ 80) :
    Calls Tryz.prog 11 #[u, .int .i64 (a : Nat), u', .int .i64 (b : Nat), .int .i64 (t : Nat)] w (RetV w (.tuple #[.bool (decide (ntx M t a = ntx N t b)), .bool true])) := by
  have hlM := (good_row hgM ha).2.2.1
  have hlN := (good_row hgN hb).2.2.1
  have hiM := (good_row hgM ha).2.1
  have hiN := (good_row hgN hb).2.1
  have hfM := goodB_fine hgM
  have hfN := goodB_fine hgN
  have hid1 := hsM.2.2.1
  have hid2 := hsN.2.2.1
  have HM := Lib.hid h
  have HN := Lib.hid h'
  obtain ⟨ve, vi, vn, rfl, he, hi, hn⟩ := h
  obtain ⟨A, c, rfl, -, -, -⟩ := he
  obtain ⟨A1, c1, rfl, -, -, -⟩ := hi
  obtain ⟨A2, c2, rfl, -, -, -⟩ := hn
  obtain ⟨ve, vi, vn, rfl, he, hi, hn⟩ := h'
  obtain ⟨B, d, rfl, -, -, -⟩ := he
  obtain ⟨B1, d1, rfl, -, -, -⟩ := hi
  obtain ⟨B2, d2, rfl, -, -, -⟩ := hn
  obtain ⟨wz, hwz⟩ : ∃ wz, wz = ((w.alloc (.cells #[.slice A M.ends.length c, .slice A1 M.ids.length c1, .slice A2 M.inputs.length c2] 27)).alloc (.cells #[.slice B N.ends.length d, .slice B1 N.ids.length d1, .slice B2 N.inputs.length d2] 27)) := ⟨_, rfl⟩
  have hzs : wz.heap.size = w.heap.size + 2 := by rw [hwz]; simp
  have hbz : Below w.heap.size w wz := by rw [hwz]; exact ((Below.refl _ _).alloc (Nat.le_refl _) _).alloc (by simp) _
  have HK0 : Hid (Blk wz w.heap.size 27 #[.slice A M.ends.length c, .slice A1 M.ids.length c1, .slice A2 M.inputs.length c2]) := Lib.hid (by rw [hwz]; exact (Blk.new w _ _).alloc _)
  have HK1 : Hid (Blk wz (w.heap.size + 1) 27 #[.slice B N.ends.length d, .slice B1 N.ids.length d1, .slice B2 N.inputs.length d2]) := Lib.hid (by
    rw [hwz]
    have := Blk.new (w.alloc (.cells #[.slice A M.ends.length c, .slice A1 M.ids.length c1, .slice A2 M.inputs.length c2] 27)) 27 #[.slice B N.ends.length d, .slice B1 N.ids.length d1, .slice B2 N.inputs.length d2]
    rwa [World.size_alloc] at this)
  have HB0 := Lib.hid hbz
  have HZ := Lib.hid hwz
  have CO := Lib.hid (fun W (hW : Below w.heap.size w W) => nodesOk_any _ _ M N a b W (HM.out.below hW) (HN.out.below hW) hgM hgN (by omega) (by omega) ha hb hlM hlN)
  have CD := Lib.hid (fun W => isDepth_any (t : Int) W)
  have hd : inB (t : Int) 0 80 = true := inB_iff.2 (by omega)
  rw [hd] at CD
  have CJ := Lib.hid (fun W (hW : Below w.heap.size w W) => joined_any _ _ M N W (HM.out.below hW) (HN.out.below hW) hsM hsN (by omega) (by omega) hfN.sym)
  obtain ⟨U, hU⟩ : ∃ U, U = unionN M N := ⟨_, rfl⟩
  have hUl : U.ends.length = M.ends.length + N.ends.length := by rw [hU]; exact unionE_len _ _
  have hUi : U.inputs.length = U.ends.length := by rw [hUl, hU]; show (M.inputs ++ N.inputs).length = _; rw [List.length_append]; omega
  have hUf : Fine U := by rw [hU]; exact hfM.union hfN hiM
  have CC := Lib.hid (fun W v (hv : NetR W (fun _ => True) v U) => classesAt_any v U t W hv hUf hUi (by omega) (by omega) ht)
  have HCL : Hid (gi (vcls U t) a = gi (vcls U t) (M.ends.length + b) ↔ ntx M t a = ntx N t b) := Lib.hid (by rw [hU]; exact class_two hfM hfN hiM ha hb)
  rw [← hU] at CJ
  have HVL : Hid ((vcls U t).length = M.ends.length + N.ends.length) := Lib.hid (by rw [vcls_len, hUl])
  clear hwz hbz hd hU hUi hUf hgM hgN hsM hsN hfM hfN hiM hiN hid1 hid2 hUl
  go_enter Tryz.func11, Tryz.ntmps11
  go_upto_region 1 with fail
  rw [← HZ.out]
  clear HZ
  have k0 := HK0.out.cell
  have k1 := HK1.out.cell
  go_upto_region 3 with (first
    | (go_at_call 56; refine (CO.out wz HB0.out).mono ?_; rintro e w1 ⟨rfl, hb1⟩; have HB1 := Lib.hid (Below.then_ HB0.out hb1); have HZ1 := Lib.hid hb1; clear hb1)
    | (go_at_call 47; refine (CD.out _).mono ?_; rintro e wq ⟨rfl, rfl⟩))
  clear k0 k1
  have k2 := (HK0.out.below HZ1.out).cell
  have k3 := (HK1.out.below HZ1.out).cell
  go_upto_region 4 with (first
    | (go_at_call 58; go_loud (refine (CJ.out w1 HB1.out).mono ?_); rintro e w3 ⟨v3, rfl, ho3, hb3⟩; have HJ := Lib.hid (ho3.net (S := fun _ => True) (fun _ _ _ => trivial)); have HB3 := Lib.hid (Below.then_ HB1.out hb3); have HZ3 := Lib.hid (Below.then_ HZ1.out hb3); clear ho3 hb3)
    | (go_at_call 57; refine (CC.out w3 _ HJ.out).mono ?_; rintro e w4 ⟨v4, rfl, ho4, hb4⟩; have HO4 := Lib.hid ho4; have HB4 := Lib.hid (Below.then_ HB3.out hb4); have HZ4 := Lib.hid (Below.then_ HZ3.out hb4); clear ho4 hb4))
  clear k2 k3
  obtain ⟨Av, cv, rfl, -, -, hxv⟩ := HO4.out.ints
  have hva : a < (vcls U t).length := by rw [HVL.out]; omega
  have hvb : M.ends.length + b < (vcls U t).length := by rw [HVL.out]; omega
  obtain ⟨bv, ov, rfl, -, hcv⟩ := hxv (by omega)
  have q1 := hcv a hva
  have q2 := hcv (M.ends.length + b) hvb
  have lv := lt_of_cell q1
  have k4 := (HK0.out.below HZ4.out).cell
  have l4 := (HK0.out.below HZ4.out).lt
  have l5 := (HK1.out.below HZ4.out).lt
  obtain ⟨x, hx⟩ : ∃ x, x = gi (vcls U t) a := ⟨_, rfl⟩
  obtain ⟨y, hy⟩ : ∃ y, y = gi (vcls U t) (M.ends.length + b) := ⟨_, rfl⟩
  obtain ⟨lv', hlv⟩ : ∃ l, l = (vcls U t).length := ⟨_, rfl⟩
  rw [← hx] at q1
  rw [← hy] at q2
  rw [← hlv] at hva hvb ⊢
  have i1 : (0 : Int) ≤ (a : Int) := by omega
  have i2 : (a : Int) < (lv' : Int) := by omega
  have i3 : (0 : Int) ≤ (M.ends.length : Int) + (b : Int) := by omega
  have i4 : (M.ends.length : Int) + (b : Int) < (lv' : Int) := by omega
  have hw1 : IntKind.i64.wrap ((M.ends.length : Int) + (b : Int)) = (M.ends.length : Int) + (b : Int) := IntWalk.i64_in _ (by omega)
  have ht1 : ((M.ends.length : Int) + (b : Int)).toNat = M.ends.length + b := by omega
  have HXY : Hid (x = y ↔ ntx M t a = ntx N t b) := Lib.hid (by rw [hx, hy]; exact HCL.out)
  clear hcv hxv hx hy hlv HCL
  by_cases hxy : x = y
  · have HD : Hid (decide (ntx M t a = ntx N t b) = true) := Lib.hid (decide_eq_true (HXY.out.1 hxy))
    have e1 : (x == y) = true := by simp [hxy]
    clear hxy
    refine wp_region_below (by kernel_rfl) (by kernel_rfl) ?_
    repeat (go_big_quiet_step (fail))
    refine wpQuiet_nil ?_
    rintro _ ⟨z, rfl⟩
    have HX := Lib.hid (Below.then_ HB4.out z.h)
    go_wp2_with fail
    exact bodyPost_ret (v := .tuple #[.bool true, .bool true]) (by simp [results, Tryz.results11, go_sem]) rfl ⟨by rw [HD.out], HX.out⟩
  · have HD : Hid (decide (ntx M t a = ntx N t b) = false) := Lib.hid (decide_eq_false fun e => hxy (HXY.out.2 e))
    have e1 : (x == y) = false := by simp [hxy]
    clear hxy
    refine wp_region_below (by kernel_rfl) (by kernel_rfl) ?_
    repeat (go_big_quiet_step (fail))
    refine wpQuiet_nil ?_
    rintro _ ⟨z, rfl⟩
    have HX := Lib.hid (Below.then_ HB4.out z.h)
    go_wp2_with fail
    exact bodyPost_ret (v := .tuple #[.bool false, .bool true]) (by simp [results, Tryz.results11, go_sem]) rfl ⟨by rw [HD.out], HX.out⟩
end Go.Proofs.YtljjbhihllnnaaaGreat

namespace Go.Proofs.YtljjbhihllnnaaaGreat
open Go.RowKit

theorem strB_inj {a b : List UInt8} (h : strB a = strB b) : a = b := by
  have := congrArg (fun s => from_ s 0) h
  simpa [strB_from] using this
theorem toList_ne {s t : ByteArray} (h : s ≠ t) : ¬ s.toList = t.toList := fun e => h (by
  rw [ByteArray.toList_eq, ByteArray.toList_eq] at e
  cases s; cases t
  simpa using e)
section
variable {N : Net} {a k i : Nat}
theorem vtx_short (h : (ntx N k a).length ≤ 4000) : vtx N k a = strB (ntx N k a) := by unfold vtx; rw [if_pos h]
theorem etx_part (f : Nat → List UInt8) : ∀ {es : List (Int × Int)} {s : UInt8} {i : Nat}, i < es.length → (f (gp es i).1.toNat).length ≤ (etx f s es).length
  | [], _, _, h => by simp at h
  | e :: es, s, 0, _ => by simp [etx, gp]; omega
  | e :: es, s, i + 1, h => by
    have ih := etx_part f (es := es) (s := 44) (i := i) (by simpa using h)
    have e1 : gp (e :: es) (i + 1) = gp es i := by simp [gp]
    rw [e1]
    simp only [etx, List.length_cons, List.length_append]
    omega
theorem child_len (hi : i < (gl N.ends a).length) (h : (ntx N (k + 1) a).length ≤ 4000) : (ntx N k (gp (gl N.ends a) i).1.toNat).length ≤ 4000 := by
  rw [ntx_succ, if_neg (by intro e; rw [e] at hi; simp at hi)] at h
  have h2 := etx_part (ntx N k) (s := 40) hi
  simp only [List.length_append] at h
  omega
theorem less_len (hg : goodB N = true) (ha : a < N.ends.length) (hk : k + 1 ≤ 80) (h : (ntx N (k + 1) a).length ≤ 4000) : (ntx N k a).length ≤ 4000 := by
  have := (viewOf_txt (viewOf_ntx (goodB_fine hg) ha hk h) k).1
  rwa [nTr_txt, Nat.min_eq_left (by omega)] at this
theorem vw_at (hg : goodB N = true) (ha : a < N.ends.length) (hk : k ≤ 80) : vwOk N (a : Nat) (k : Nat) = true := by
  unfold vwOk
  rw [hg]
  have h1 : inB (a : Int) 0 ((N.ends.length : Int) - 1) = true := inB_iff.2 (by omega)
  have h2 : inB (k : Int) 0 80 = true := inB_iff.2 (by omega)
  rw [h1, h2]; rfl
/-- the text of a view that is not too long -/
theorem text_law {S : Nat → Prop} (u : Value) (w : World) (h : NetR w S u N) (hs : Small N) (hg : goodB N = true) (ha : a < N.ends.length) (hk : k ≤ 80) (hl : (ntx N k a).length ≤ 4000) :
    Calls Tryz.prog 8 #[u, .int .i64 (a : Nat), .int .i64 (k : Nat)] w (RetV w (.tuple #[.string (strB (ntx N k a)), .bool true])) := by
  have h1 := ViewText_all u N a k w h hs
  obtain ⟨e1, e2⟩ := vw_yes (vw_at hg ha hk)
  rw [e1, e2, vtx_short hl, decide_eq_true hl] at h1
  exact h1
theorem cut_law (hg : goodB N = true) (ha : a < N.ends.length) (hk : k + 1 ≤ 80) (h : (ntx N (k + 1) a).length ≤ 4000) (w : World) :
    Calls Tryz.prog 12 #[.string (strB (ntx N (k + 1) a)), .int .i64 (k : Nat)] w (RetV w (.tuple #[.string (strB (ntx N k a)), .bool true])) := by
  have h1 := CutView_any _ _ k w (viewOf_ntx (goodB_fine hg) ha hk h) (by omega)
  rwa [nTr_txt, Nat.min_eq_left (by omega)] at h1
theorem child_law (hg : goodB N = true) (ha : a < N.ends.length) (hk : k + 1 ≤ 80) (h : (ntx N (k + 1) a).length ≤ 4000) (hi : i < (gl N.ends a).length) (w : World) :
    Calls Tryz.prog 13 #[.string (strB (ntx N (k + 1) a)), .int .i64 (i : Nat)] w (RetV w (.tuple #[.string (strB (ntx N k (gp (gl N.ends a) i).1.toNat)), .int .i64 ((gp (gl N.ends a) i).2.toNat : Nat), .bool true])) := by
  have h1 := ChildView_any _ _ _ _ _ i w (viewOf_ntx (goodB_fine hg) ha hk h) (by simpa using hi)
  have e1 : ga ((gl N.ends a).map fun e => nTr N k e.1.toNat) i = nTr N k (gp (gl N.ends a) i).1.toNat := by
    rw [ga_lt (by simpa using hi), List.getElem_map, gp_lt hi]
  have e2 : ga ((gl N.ends a).map fun e => e.2.toNat) i = (gp (gl N.ends a) i).2.toNat := by
    rw [ga_lt (by simpa using hi), List.getElem_map, gp_lt hi]
  rwa [e1, e2, nTr_txt, Nat.min_eq_right (by omega)] at h1
theorem depth_law (hg : goodB N = true) (ha : a < N.ends.length) (hk : k ≤ 80) (h : (ntx N k a).length ≤ 4000) (w : World) :
    Calls Tryz.prog 14 #[.string (strB (ntx N k a))] w (RetV w (.tuple #[.int .i64 ((if gl N.ends a = [] then 0 else k : Nat) : Nat), .bool true])) := by
  have h1 := DepthOfView_any (strB (ntx N k a)) w
  have hv := viewOf_ntx (goodB_fine hg) ha hk h
  have e : vdepT (strB (ntx N k a)) = if gl N.ends a = [] then 0 else k := by
    unfold vdepT; rw [hv]
    exact nTr_dep (goodB_fine hg) k a ha
  rw [e, hv] at h1
  exact h1
theorem isview_law (hg : goodB N = true) (ha : a < N.ends.length) (hk : k ≤ 80) (h : (ntx N k a).length ≤ 4000) (w : World) :
    Calls Tryz.prog 15 #[.string (strB (ntx N k a))] w (RetV w (.bool true)) := by
  have h1 := IsView_any (strB (ntx N k a)) w
  rw [viewOf_ntx (goodB_fine hg) ha hk h] at h1
  exact h1
theorem ends_at (hg : goodB N = true) (ha : a < N.ends.length) (hi : i < (gl N.ends a).length) : ∃ q j : Nat, gp (gl N.ends a) i = ((q : Int), (j : Int)) ∧ q < N.ends.length ∧ j ≤ 5 := by
  obtain ⟨q, j, h1, h2, -, h3⟩ := (goodB_fine hg).at_ ha (e := gp (gl N.ends a) i) (by rw [gp_lt hi]; exact List.getElem_mem hi)
  exact ⟨q, j, h1, h2, h3⟩
end
theorem NetR.rowE {w : World} {S : Nat → Prop} {A : Option Addr} {c : Nat} {u1 u2 : Value} {N : Net} {k : Nat} (h : NetR w S (.agg #[.slice A N.ends.length c, u1, u2]) N) (hk : k < N.ends.length) :
    ∃ b off u, A = some ⟨b, off, none⟩ ∧ w.cell? ⟨b, off + k, none⟩ = some u ∧ EndsR w S u (gl N.ends k) := by
  obtain ⟨ve, vi, vn, e, ⟨A', c', e2, -, -, hx⟩, -, -⟩ := h
  simp only [Value.agg.injEq, Array.mk.injEq, List.cons.injEq, and_true] at e
  obtain ⟨rfl, -, -⟩ := e
  simp only [Value.slice.injEq] at e2
  obtain ⟨rfl, -, -⟩ := e2
  obtain ⟨b, off, h1, -, h2⟩ := hx (by omega)
  obtain ⟨u, hu, hr⟩ := h2 k hk
  exact ⟨b, off, u, h1, hu, hr⟩
end Go.Proofs.YtljjbhihllnnaaaGreat
