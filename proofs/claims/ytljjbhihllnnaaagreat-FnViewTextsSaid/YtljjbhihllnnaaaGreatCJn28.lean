/- Parts of the proof, joined: Lnw, Vwk. -/
import Derived.Test.YtljjbhihllnnaaaGreatCJn23
import Derived.Test.YtljjbhihllnnaaaGreatCMkl
import Derived.Test.YtljjbhihllnnaaaGreatCJn1
namespace Go.Proofs.YtljjbhihllnnaaaGreat
open Go.RowKit
attribute [local go_sem] BW.cell BW.frozen

/-- some text of at most K bytes -/
def RetStr (w : World) (K : Nat) (e : Ending) (w' : World) : Prop := Below w.heap.size w w' ∧ ∃ s : ByteArray, e = .returned (.string s) ∧ s.size ≤ K
/-- one byte out of a slice of one -/
theorem conv_byte (w : World) (z : Int) (h0 : 0 ≤ z) (h1 : z ≤ 255) (g : Nat) (t : TypeId) (hb : Blk w g t #[.int .u8 z]) : (convert 22 9 (.slice (some ⟨g, 0, none⟩) 1 1)).run Tryz.prog w = .ok (.string (strB [UInt8.ofNat z.toNat])) w :=
  run_convert_bytes_back _ _ _ _ _ _ [UInt8.ofNat z.toNat] Tryz.underlying22 Tryz.underlying5 Tryz.underlying9 (fun j hj => by
    obtain rfl : j = 0 := by simpa using hj
    rw [addr_add, hb.cell]
    have : (z.toNat % 256 : Nat) = z.toNat := by omega
    simp
    omega)
set_option maxRecDepth 100000 in
set_option maxHeartbeats 1000000 in
theorem l1Num_low (n : Int) (w : World) (hn : n < 10) : Calls Tryz.prog 112 #[.int .i64 n] w (RetStr w 1) := by
  obtain ⟨z, hz⟩ : ∃ z, z = wrap64 (48 + n) % 256 := ⟨_, rfl⟩
  have hzb : 0 ≤ z ∧ z ≤ 255 := by omega
  have hcv := conv_byte (w.alloc (.cells #[.int .u8 z] 5)) z hzb.1 hzb.2 w.heap.size 5 (Blk.new w _ _)
  have HB := Lib.hid ((Below.refl w.heap.size w).alloc (Nat.le_refl _) (.cells #[.int .u8 z] 5))
  have hz' : wrap64 (48 + n) % 256 = z := hz.symm
  clear hz
  go_enter Tryz.func112, Tryz.ntmps112
  go_wp2_with fail
  go_ret
  exact ⟨HB.out, _, rfl, by rw [strB_size]; exact Nat.le_refl _⟩

/-- some string -/
def mkS (K : Nat) : Mkg where
  Y := fun _ v => ∃ s : ByteArray, v = .string s ∧ s.size ≤ K
  F := fun _ _ _ _ _ => True
  st := fun _ _ _ _ _ _ _ _ => trivial
theorem mkS.gives {K : Nat} {ar : Array Value} {x x' : World} {s : ByteArray} (hb : Below x.heap.size x x') (hs : s.size ≤ K) : Gives (mkS K) ar x (.string s) x' := ⟨hb, ⟨s, rfl, hs⟩, trivial⟩

set_option maxRecDepth 100000 in
set_option maxHeartbeats 2000000 in
theorem l1Num_high (n : Int) (K : Nat) (w : World) (hn : ¬ n < 10) (hK : K ≤ 1000) (H : ∀ W, Calls Tryz.prog 112 #[.int .i64 (wrap64 (n.tdiv 10))] W (RetStr W K)) : Calls Tryz.prog 112 #[.int .i64 n] w (RetStr w (K + 1)) := by
  have HH := Lib.hid H
  have HB0 := Lib.hid (Below.refl w.heap.size w)
  clear H
  go_enter Tryz.func112, Tryz.ntmps112
  go_upto_region 3 with fail
  have hzb : 0 ≤ 48 + n % 10 ∧ 48 + n % 10 ≤ 255 := by omega
  refine wp_region_makeZ (fun i => match i with | 2 => some (mkS K) | 7 => some (mkSl1 5 #[.int .u8 (48 + n % 10)]) | 8 => some (mkS 1) | _ => none) 9 1000 (by kernel_rfl) (by kernel_rfl) (by intro o ho; first | (cases ho; done) | (cases ho; intro _ _ _ _ h; exact h)) ?_
  simp only [List.take_succ_cons, List.take_zero, List.drop_succ_cons, List.drop_zero]
  refine wpMk_quiet 2 _ _ _ rfl rfl ?_
  simp only [List.take_succ_cons, List.take_zero, List.drop_succ_cons, List.drop_zero]
  repeat (go_big_quiet_step (fail))
  refine wpQuiet_nil ?_
  refine wpMk_make _ 12 rfl rfl (by simp) (fun x hneed => by { go_wp2_with (go_at_call 112; refine (HH.out _).mono ?_; rintro e x' ⟨hb, s, rfl, hs⟩); exact mkS.gives hb hs }) rfl ?_
  rintro v12 b12 e12 ⟨s12, rfl, hs12⟩
  simp only [Act.put, List.setIfInBounds_toArray, List.set_cons_zero, List.set_cons_succ]
  refine wpMk_quiet 4 _ _ _ rfl rfl ?_
  simp only [List.take_succ_cons, List.take_zero, List.drop_succ_cons, List.drop_zero]
  repeat (go_big_quiet_step (fail))
  refine wpQuiet_nil ?_
  refine wpMk_make _ 17 rfl rfl (by simp) (fun x hneed => by { go_wp2_with fail; exact mkSl1.gives }) rfl ?_
  rintro v17 b17 e17 ⟨g17, rfl⟩
  simp only [Act.put, List.setIfInBounds_toArray, List.set_cons_zero, List.set_cons_succ]
  refine wpMk_make _ 18 rfl rfl (by simp) (fun x hneed => by { obtain ⟨n7, -⟩ := hneed; have h7 := n7 (by kernel_rfl); obtain ⟨g, e7, -, -, hblk⟩ := h7; cases e7; have hcv := conv_byte x.wd (48 + n % 10) hzb.1 hzb.2 g17 5 hblk; go_wp2_with fail; exact mkS.gives (Below.refl _ _) (by rw [strB_size]; exact Nat.le_refl _) }) rfl ?_
  rintro v18 b18 e18 ⟨s18, rfl, hs18⟩
  simp only [Act.put, List.setIfInBounds_toArray, List.set_cons_zero, List.set_cons_succ]
  rintro x hbx - hdis hord
  have HBX := Lib.hid hbx
  have hsz : (s12 ++ s18).size ≤ K + 1 := by rw [ByteArray.size_append]; omega
  have hs1 : s12.size ≤ 1000 := by omega
  clear hdis hord hbx
  go_wp2_with fail
  go_ret
  exact ⟨HBX.out, _, rfl, hsz⟩

theorem wrap64_hi (x : Int) : wrap64 x ≤ 9223372036854775807 := by unfold wrap64; omega
theorem l1Num_up : ∀ (k : Nat) (n : Int) (w : World), n < (10 : Int) ^ (k + 1) → n ≤ 9223372036854775807 → k ≤ 100 → Calls Tryz.prog 112 #[.int .i64 n] w (RetStr w (k + 1))
  | 0, n, w, h, _, _ => l1Num_low n w (by simpa using h)
  | k + 1, n, w, h, h2, hk => by
    by_cases hn : n < 10
    · exact (l1Num_low n w hn).mono fun e w' ⟨hb, s, he, hs⟩ => ⟨hb, s, he, by omega⟩
    · have e1 : n.tdiv 10 = n / 10 := Int.tdiv_eq_ediv_of_nonneg (by omega)
      have e2 : wrap64 (n.tdiv 10) = n / 10 := by rw [e1]; unfold wrap64; omega
      refine l1Num_high n (k + 1) w hn (by omega) fun W => ?_
      rw [e2]
      refine l1Num_up k (n / 10) W ?_ (by omega) (by omega)
      have : (10 : Int) ^ (k + 1 + 1) = 10 ^ (k + 1) * 10 := by rw [Int.pow_succ]
      omega
/-- l1Num, at whatever number -/
theorem l1Num_w (n : Int) (w : World) : Calls Tryz.prog 112 #[.int .i64 n] w (RetStr w 20) := by
  by_cases hn : n < 10
  · exact (l1Num_low n w hn).mono fun e w' ⟨hb, s, he, hs⟩ => ⟨hb, s, he, by omega⟩
  · refine l1Num_high n 19 w hn (by omega) fun W => ?_
    have h1 := wrap64_hi (n.tdiv 10)
    refine l1Num_up 18 _ W ?_ h1 (by omega)
    have : (10 : Int) ^ (18 + 1) = 10000000000000000000 := by decide
    omega
end Go.Proofs.YtljjbhihllnnaaaGreat

namespace Go.Proofs.YtljjbhihllnnaaaGreat
open Go.RowKit
attribute [local go_sem] BW.cell BW.frozen strB_size

/-- a network of few nodes and ports, as the texts want it -/
structure Tidy (N : Net) : Prop where
  pos : 0 < N.ends.length
  len : N.ends.length ≤ 64
  deg : ∀ a, dg N.ends a ≤ 600
  ins : N.inputs.length = N.ends.length
  sym : Sym N.ends
theorem Drawn.tidy {m d : Nat} {N : Net} (h : Drawn m d N) (hm : m ≤ 64) (hd : d ≤ 600) : Tidy N := ⟨by have := h.pos; omega, by have := h.len; omega, fun a => by have := h.deg a; omega, h.ins, h.sym⟩

set_option maxRecDepth 100000 in
set_option maxHeartbeats 2000000 in
theorem viHead_w {S : Nat → Prop} (vN : Value) (N : Net) (v : Nat) (w : World) (h : NetR w S vN N) (ht : Tidy N) (hv : v < N.ends.length) :
    Calls Tryz.prog 111 #[vN, .int .i64 (v : Nat)] w (RetStr w 41) := by
  have hvl := ht.ins
  obtain ⟨ve, vi, vn, rfl, he, hi, hn⟩ := h
  obtain ⟨A1, c1, rfl, -, -, -⟩ := hi
  obtain ⟨A, c, rfl, -, hm, hx⟩ := he
  obtain ⟨A2, c2, rfl, -, hm2, hx2⟩ := hn
  obtain ⟨b, off, rfl, -, hc⟩ := hx (by omega)
  obtain ⟨b2, off2, rfl, -, hc2⟩ := hx2 (by omega)
  obtain ⟨u, hu, hur⟩ := hc v hv
  obtain ⟨A3, c3, rfl, -, -, -⟩ := hur
  have ci := hc2 v (by omega)
  obtain ⟨q, hq⟩ : ∃ q, q = gi N.inputs v := ⟨_, rfl⟩
  rw [← hq] at ci
  have hb := lt_of_cell hu
  have hb2 := lt_of_cell ci
  have hbx : Below w.heap.size w (w.alloc (.cells #[.slice (some ⟨b, off, none⟩) N.ends.length c, .slice A1 N.ids.length c1, .slice (some ⟨b2, off2, none⟩) N.inputs.length c2] 27)) := (Below.refl _ _).alloc (Nat.le_refl _) _
  have HBX := Lib.hid hbx
  have d1 := (hbx.cell (p := ⟨b, off + v, none⟩) hb).trans hu
  have d2 := (hbx.cell (p := ⟨b2, off2 + v, none⟩) hb2).trans ci
  have z1 : b < (w.alloc (.cells #[.slice (some ⟨b, off, none⟩) N.ends.length c, .slice A1 N.ids.length c1, .slice (some ⟨b2, off2, none⟩) N.inputs.length c2] 27)).heap.size := by simp; omega
  have z2 : b2 < (w.alloc (.cells #[.slice (some ⟨b, off, none⟩) N.ends.length c, .slice A1 N.ids.length c1, .slice (some ⟨b2, off2, none⟩) N.inputs.length c2] 27)).heap.size := by simp; omega
  have z0 : w.heap.size < (w.alloc (.cells #[.slice (some ⟨b, off, none⟩) N.ends.length c, .slice A1 N.ids.length c1, .slice (some ⟨b2, off2, none⟩) N.inputs.length c2] 27)).heap.size := by simp
  have kb := (Blk.new w 27 #[.slice (some ⟨b, off, none⟩) N.ends.length c, .slice A1 N.ids.length c1, .slice (some ⟨b2, off2, none⟩) N.inputs.length c2]).cell
  have i0 : (0 : Int) ≤ (v : Int) := by omega
  have i1 : (v : Int) < (N.ends.length : Int) := by omega
  have i2 : (v : Int) < (N.inputs.length : Int) := by omega
  clear hx hx2 hc hc2 hu ci hbx hq ht hvl
  go_enter Tryz.func111, Tryz.ntmps111
  go_upto_region 1 with fail
  generalize w.alloc (.cells #[.slice (some ⟨b, off, none⟩) N.ends.length c, .slice A1 N.ids.length c1, .slice (some ⟨b2, off2, none⟩) N.inputs.length c2] 27) = w0 at *
  refine wp_region_makeZ (fun i => match i with | 6 => some (mkS 20) | 13 => some (mkS 20) | _ => none) 15 1000 (by kernel_rfl) (by kernel_rfl) (by intro o ho; first | (cases ho; done) | (cases ho; intro _ _ _ _ h; exact h)) ?_
  simp only [List.take_succ_cons, List.take_zero, List.drop_succ_cons, List.drop_zero]
  refine wpMk_quiet 6 _ _ _ rfl rfl ?_
  simp only [List.take_succ_cons, List.take_zero, List.drop_succ_cons, List.drop_zero]
  repeat (go_big_quiet_step (fail))
  refine wpQuiet_nil ?_
  refine wpMk_make _ 11 rfl rfl (by simp) (fun x hneed => by { go_wp2_with (go_at_call 112; refine (l1Num_w _ _).mono ?_; rintro e x' ⟨hb, s, rfl, hs⟩); exact mkS.gives hb hs }) rfl ?_
  rintro v11 b11 e11 ⟨s11, rfl, hs11⟩
  simp only [Act.put, List.setIfInBounds_toArray, List.set_cons_zero, List.set_cons_succ]
  refine wpMk_quiet 6 _ _ _ rfl rfl ?_
  simp only [List.take_succ_cons, List.take_zero, List.drop_succ_cons, List.drop_zero]
  repeat (go_big_quiet_step (fail))
  refine wpQuiet_nil ?_
  refine wpMk_make _ 18 rfl rfl (by simp) (fun x hneed => by { go_wp2_with (go_at_call 112; refine (l1Num_w _ _).mono ?_; rintro e x' ⟨hb, s, rfl, hs⟩); exact mkS.gives hb hs }) rfl ?_
  rintro v18 b18 e18 ⟨s18, rfl, hs18⟩
  simp only [Act.put, List.setIfInBounds_toArray, List.set_cons_zero, List.set_cons_succ]
  refine wpMk_quiet 1 _ _ _ rfl rfl ?_
  simp only [List.take_succ_cons, List.take_zero, List.drop_succ_cons, List.drop_zero]
  repeat (go_big_quiet_step (fail))
  refine wpQuiet_nil ?_
  rintro x hbx - hdis hord
  have HX := Lib.hid (Below.then_ HBX.out hbx)
  have hsz : (s11 ++ { data := #[46] } ++ s18).size ≤ 41 := by
    have e1 : ({ data := #[46] } : ByteArray).size = 1 := rfl
    rw [ByteArray.size_append, ByteArray.size_append, e1]; omega
  clear hdis hord hbx
  go_wp2_with fail
  go_ret
  exact ⟨HX.out, _, rfl, hsz⟩

/-- texts of no great size -/
def Sml (xs : List ByteArray) : Prop := ∀ x ∈ xs, x.size ≤ 4000
theorem Sml.nil : Sml [] := fun _ h => by cases h
theorem Sml.snoc {xs : List ByteArray} {s : ByteArray} (h : Sml xs) (hs : s.size ≤ 4000) : Sml (xs ++ [s]) := fun x hx => by
  rcases List.mem_append.1 hx with h1 | h1
  · exact h x h1
  · simp at h1; subst h1; exact hs
theorem Sml.at_ {xs : List ByteArray} (h : Sml xs) {j : Nat} (hj : j < xs.length) : (ga xs j).size ≤ 4000 := by rw [ga_lt hj]; exact h _ (List.getElem_mem hj)

set_option maxRecDepth 100000 in
set_option maxHeartbeats 4000000 in
theorem viTexts_w {S : Nat → Prop} (vN : Value) (N : Net) (t : Nat) (w : World) (h : NetR w S vN N) (hg : Tidy N) (ht : t ≤ 1000) :
    Calls Tryz.prog 55 #[vN, .int .i64 (t : Nat)] w (fun e w' => ∃ A c xs, xs.length = N.ends.length ∧ Sml xs ∧ e = .returned (.slice A N.ends.length c) ∧ OwnG encS 9 w' w.heap.size (.slice A N.ends.length c) xs ∧ Below w.heap.size w w') := by
  have HNR := Lib.hid h
  have HG := Lib.hid hg
  have hne := hg.pos
  have hn40 := hg.len
  obtain ⟨ve, vi, vn, rfl, he, hi, hn⟩ := h
  obtain ⟨A1, c1, rfl, -, -, -⟩ := hi
  obtain ⟨A, c, rfl, hnc, hm, hx⟩ := he
  obtain ⟨A2, c2, rfl, hnc2, hm2, -⟩ := hn
  unfold maxLen at hm hm2
  have HX := Lib.hid hx
  have HA0 := Lib.hid ((Below.refl w.heap.size w).alloc (Nat.le_refl _) (.cells #[.slice A N.ends.length c, .slice A1 N.ids.length c1, .slice A2 N.inputs.length c2] 27))
  have HK0 := Lib.hid (Blk.new w 27 #[.slice A N.ends.length c, .slice A1 N.ids.length c1, .slice A2 N.inputs.length c2])
  have hz0 : (w.alloc (.cells #[.slice A N.ends.length c, .slice A1 N.ids.length c1, .slice A2 N.inputs.length c2] 27)).heap.size = w.heap.size + 1 := by simp
  clear hx hg
  go_enter Tryz.func55, Tryz.ntmps55
  go_wp2_with fail
  generalize w.alloc (.cells #[.slice A N.ends.length c, .slice A1 N.ids.length c1, .slice A2 N.inputs.length c2] 27) = w0 at *
  go_loopw [17, 5] (fun x x5 wr => ∃ (j : Nat) (Aa : Option Addr) (ca : Nat) (xs : List ByteArray), j ≤ N.ends.length ∧ x = .int .i64 j ∧ x5 = .slice Aa j ca ∧ xs.length = j ∧ Sml xs ∧ OwnG encS 9 wr (w.heap.size + 1) (.slice Aa j ca) xs ∧
      Blk wr w.heap.size 27 #[.slice A N.ends.length c, .slice A1 N.ids.length c1, .slice A2 N.inputs.length c2] ∧ Below w.heap.size w wr ∧ w.heap.size + 1 ≤ wr.heap.size) (fun x _ _ => N.ends.length - (intOf x).toNat)
  case atStart => exact ⟨0, none, 0, [], Nat.zero_le _, rfl, rfl, rfl, Sml.nil, OwnG.nil, HK0.out, HA0.out, by omega⟩
  case round =>
    obtain ⟨j, Aa, ca, xs, hj, rfl, rfl, hxl, hsm, hown, hkb, hbel, hz⟩ := hrel
    have HXL := Lib.hid hxl
    have HSM := Lib.hid hsm
    have HOW := Lib.hid hown
    have HKB := Lib.hid hkb
    have HB := Lib.hid hbel
    have kc := hkb.cell
    clear hown hbel hkb hsm hxl
    by_cases hlt : j < N.ends.length
    · have HHD := Lib.hid (fun W (hW : Below w.heap.size w W) => viHead_w _ N j W (HNR.out.below hW) HG.out hlt)
      go_upto_region 6 with (first
        | (go_at_call 111; refine (HHD.out _ HB.out).mono ?_; rintro e w1 ⟨hb1, s, rfl, hs⟩; have HS := Lib.hid hs; have HB1 := Lib.hid (hb1.alloc hb1.size (.cells #[.string s] 9)); clear hb1 hs)
        | (refine wpList_append_G strT (S := fun _ => True) _ rfl (.tmp 20) (.tmp 24) rfl (w.heap.size + 1) (.slice Aa j ca) xs rfl (HOW.out.below HB1.out) _ [s] rfl (SlR.oneS (Blk.newAt rfl)) (by have := HXL.out; simp; omega) (by have := HB1.out.size; omega) ?_; rw [HXL.out]; intro A5 c5 w2 ho5 hg5 hl5))
      have HO5 : Hid (OwnG encS 9 w2 (w.heap.size + 1) (.slice A5 (j + 1) c5) (xs ++ [s])) := Lib.hid ho5
      have HB5 : Hid (Below w.heap.size w w2) := Lib.hid ((HB.out.trans (HB1.out.mono (by omega))).grown hg5 (by have := HB1.out.size; omega) (fun k hk => by have := (HOW.out.lt k hk).1; omega))
      have HK5 : Hid (Blk w2 w.heap.size 27 #[.slice A N.ends.length c, .slice A1 N.ids.length c1, .slice A2 N.inputs.length c2]) := Lib.hid ((hg5.block _ (by have := HB1.out.size; omega) (fun e => by have := (HOW.out.lt _ e.symm).1; omega)).trans (HKB.out.below HB1.out))
      have hz5 : w.heap.size + 1 ≤ w2.heap.size := Nat.le_trans (by have := HB1.out.size; omega) hg5.size
      clear ho5 hg5 hl5 HB1
      go_wp2_with fail
      go_roundw
      case rel => exact ⟨j + 1, A5, c5, xs ++ [s], by omega, by go_num, rfl, by rw [List.length_append, HXL.out]; rfl, HSM.out.snoc (by have := HS.out; omega), HO5.out, HK5.out, HB5.out, hz5⟩
      case measure => simp [intOf]; omega
    · obtain rfl : j = N.ends.length := by omega
      clear kc
      go_wp2_with fail
      go_loopw [1, 5] (fun x1 x5 wr2 => ∃ (k : Nat) (At : Option Addr) (ct : Nat) (xs : List ByteArray), k ≤ t ∧ x1 = .int .i64 ((t - k : Nat) : Int) ∧ x5 = .slice At N.ends.length ct ∧ xs.length = N.ends.length ∧ Sml xs ∧ OwnG encS 9 wr2 (w.heap.size + 1) (.slice At N.ends.length ct) xs ∧
          Blk wr2 w.heap.size 27 #[.slice A N.ends.length c, .slice A1 N.ids.length c1, .slice A2 N.inputs.length c2] ∧ Below w.heap.size w wr2 ∧ w.heap.size + 1 ≤ wr2.heap.size) (fun x1 _ _ => (intOf x1).toNat)
      case atStart => exact ⟨0, Aa, ca, xs, Nat.zero_le _, rfl, rfl, HXL.out, HSM.out, HOW.out, HKB.out, HB.out, hz⟩
      case round =>
        clear HXL HSM
        obtain ⟨k, At, ct, xs, hk, rfl, rfl, hxl, hsm, hown, hkb, hbel, hz2⟩ := hrel
        obtain ⟨wr2, rfl⟩ : ∃ wr2, wr2 = wr := ⟨_, rfl⟩
        have HXL := Lib.hid hxl
        have HSM := Lib.hid hsm
        have HOT := Lib.hid hown
        have HKT := Lib.hid hkb
        have HBT := Lib.hid hbel
        have kc2 := hkb.cell
        clear hown hkb hbel HOW HKB HB hxl hsm
        by_cases hlk : k < t
        · have e1 : (0 : Int) < ((t - k : Nat) : Int) := by omega
          obtain ⟨tk, htk⟩ : ∃ tk : Int, tk = ((t - k : Nat) : Int) := ⟨_, rfl⟩
          have htk2 : 0 < tk ∧ tk ≤ 1000 := by omega
          obtain ⟨htk3, htk4⟩ := htk2
          have HTK := Lib.hid htk
          have LT : Hid (∀ g, (Value.slice At N.ends.length ct).ownBlock = some g → g < wr2.heap.size) := Lib.hid fun g hg => (HOT.out.lt g hg).2
          rw [← htk] at e1 ⊢
          clear htk
          go_wp2_with fail
          clear kc2
          go_loopw [34, 7] (fun x34 x7 wr3 => ∃ (j : Nat) (A7 : Option Addr) (c7 : Nat) (ys : List ByteArray), j ≤ N.ends.length ∧ x34 = .int .i64 j ∧ x7 = .slice A7 j c7 ∧ ys.length = j ∧ Sml ys ∧ OwnG encS 9 wr3 wr2.heap.size (.slice A7 j c7) ys ∧
              OwnG encS 9 wr3 (w.heap.size + 1) (.slice At N.ends.length ct) xs ∧
              Blk wr3 w.heap.size 27 #[.slice A N.ends.length c, .slice A1 N.ids.length c1, .slice A2 N.inputs.length c2] ∧ Below w.heap.size w wr3 ∧ wr2.heap.size ≤ wr3.heap.size) (fun x34 _ _ => N.ends.length - (intOf x34).toNat)
          case atStart => exact ⟨0, none, 0, [], Nat.zero_le _, rfl, rfl, rfl, Sml.nil, OwnG.nil, HOT.out, HKT.out, HBT.out, Nat.le_refl _⟩
          case round =>
            obtain ⟨j, A7, c7, ys, hj, rfl, rfl, hyl, hsy, hnx, hot, hkb, hbel, hz3⟩ := hrel
            obtain ⟨wr3, rfl⟩ : ∃ wr3, wr3 = wr := ⟨_, rfl⟩
            have HYL := Lib.hid hyl
            have HSY := Lib.hid hsy
            have HNX := Lib.hid hnx
            have HOT3 := Lib.hid hot
            have HK3 := Lib.hid hkb
            have HB3 := Lib.hid hbel
            have kc3 := hkb.cell
            clear hnx hot hkb hbel HOT HKT HBT hyl hsy
            by_cases hlt : j < N.ends.length
            · obtain ⟨b, off, rfl, -, hc⟩ := HX.out hne
              obtain ⟨u, hu, hur⟩ := hc j hlt
              have HUR := Lib.hid hur
              obtain ⟨Ae, ce, rfl, -, -, -⟩ := hur
              have hbl := lt_of_cell hu
              have cu : wr3.cell? ⟨b, off + j, none⟩ = some (.slice Ae (gl N.ends j).length ce) := (HB3.out.cell (p := ⟨b, off + j, none⟩) hbl).trans hu
              have i0 : (0 : Int) ≤ (j : Int) := by omega
              have i1 : (j : Int) < (N.ends.length : Int) := by omega
              have hd6 := HG.out.deg j
              unfold Go.Proofs.YtljjbhihllnnaaaGreat.dg at hd6
              have HHD := Lib.hid (fun W (hW : Below w.heap.size w W) => viHead_w _ N j W (HNR.out.below hW) HG.out hlt)
              obtain ⟨dg, hdg⟩ : ∃ dg, dg = (gl N.ends j).length := ⟨_, rfl⟩
              have HDG := Lib.hid hdg
              rw [← hdg] at cu hd6
              clear hc hu hdg
              go_wp2_with (go_at_call 111; refine (HHD.out _ HB3.out).mono ?_; rintro e w4 ⟨hb4, s0, rfl, hs0⟩; have HS0 := Lib.hid hs0; have HB4 := Lib.hid hb4; clear hb4 hs0 cu kc3)
              go_loopw [44, 10, 11] (fun x44 x10 x11 wr4 => ∃ (i : Nat) (s : ByteArray) (lg : Bool), i ≤ dg ∧ x44 = .int .i64 i ∧ x10 = .string s ∧ x11 = .bool lg ∧ s.size ≤ 41 + i * 4030 ∧ Below wr3.heap.size wr3 wr4) (fun x44 _ _ _ => dg - (intOf x44).toNat)
              case atStart => exact ⟨0, s0, false, Nat.zero_le _, rfl, rfl, rfl, by have := HS0.out; omega, HB4.out⟩
              case round =>
                clear HB4 HS0
                obtain ⟨i, s, lg, hi, rfl, rfl, rfl, hss, hbel4⟩ := hrel
                obtain ⟨wr4, rfl⟩ : ∃ wr4, wr4 = wr := ⟨_, rfl⟩
                have HB5 := Lib.hid hbel4
                clear hbel4
                by_cases hli : i < dg
                · obtain ⟨un, pn, hup, hun, -, -⟩ := HG.out.sym j i hlt (by have := HDG.out; unfold Go.Proofs.YtljjbhihllnnaaaGreat.dg; omega)
                  unfold pt at hup
                  obtain ⟨Ax, cx, hv, -, -, hex⟩ := HUR.out
                  cases hv
                  obtain ⟨be, offe, rfl, -, hce⟩ := hex (by have := HDG.out; omega)
                  obtain ⟨d1, d2⟩ := hce i (by have := HDG.out; omega)
                  rw [hup] at d1 d2
                  have hbe := lt_of_cell d1
                  have hw4 : Below w.heap.size w wr4 := HB3.out.trans (HB5.out.mono (by have := HB3.out.size; omega))
                  have q1 : wr4.cell? ⟨be, offe + i * 2, none⟩ = some (.int .i64 (un : Nat)) := (hw4.cell (p := ⟨be, offe + i * 2, none⟩) hbe).trans d1
                  have q2 : wr4.cell? ⟨be, offe + i * 2 + 1, none⟩ = some (.int .i64 (pn : Nat)) := (hw4.cell (p := ⟨be, offe + i * 2 + 1, none⟩) hbe).trans d2
                  obtain ⟨gt, ctt, hvt, -, hgt, -, -⟩ := (HOT3.out.below HB5.out).addr (by rw [HXL.out]; omega)
                  rw [HXL.out] at hvt
                  simp only [Value.slice.injEq, true_and] at hvt
                  obtain ⟨rfl, rfl⟩ := hvt
                  have hux : un < xs.length := by rw [HXL.out]; exact hun
                  obtain ⟨tv, htv0⟩ : ∃ tv, tv = ga xs un := ⟨_, rfl⟩
                  have htv : tv.size ≤ 4000 := by rw [htv0]; exact HSM.out.at_ hux
                  have q3 : wr4.cell? ⟨gt, un, none⟩ = some (.string tv) := by
                    have := ((HOT3.out.below HB5.out).at_ (j := un) hux).1 0 (by decide)
                    rw [show un * encS.k + 0 = un by show un * 1 + 0 = un; omega] at this
                    rw [this, htv0]
                    rfl
                  have hs2 : s.size ≤ 3000000 := by omega
                  have HW4 := Lib.hid hw4
                  have HBE := Lib.hid ((Below.refl wr4.heap.size wr4).alloc (Nat.le_refl _) (.cells #[.int .i64 (un : Nat), .int .i64 (pn : Nat)] 38))
                  have kE := (Blk.new wr4 38 #[.int .i64 (un : Nat), .int .i64 (pn : Nat)]).cell
                  have q4 := (HBE.out.cell (p := ⟨gt, un, none⟩) hgt).trans q3
                  have zE : wr4.heap.size < (wr4.alloc (.cells #[.int .i64 (un : Nat), .int .i64 (pn : Nat)] 38)).heap.size := by simp
                  have zT : gt < (wr4.alloc (.cells #[.int .i64 (un : Nat), .int .i64 (pn : Nat)] 38)).heap.size := by simp; omega
                  have j0 : (0 : Int) ≤ (i : Int) := by omega
                  have j1 : (i : Int) < (dg : Int) := by omega
                  have u0 : (0 : Int) ≤ (un : Int) := by omega
                  have u1 : (un : Int) < (N.ends.length : Int) := by omega
                  have h1c : ∀ (c : UInt8), ({ data := #[c] } : ByteArray).size = 1 := fun _ => rfl
                  clear hup hce hex d1 d2 q3 hw4 htv0 hux
                  by_cases hi0 : i = 0
                  all_goals
                    try have e3 : ((i : Int) == 0) = true := by simp [hi0]
                    try have e3 : ((i : Int) == 0) = false := by simp [hi0]
                    have HI0 := Lib.hid hi0
                    clear hi0
                    go_upto_region 20 with fail
                    generalize wr4.alloc (.cells #[.int .i64 (un : Nat), .int .i64 (pn : Nat)] 38) = wE at *
                    refine wp_region_makeZ (fun i => match i with | 3 => some (mkS 20) | _ => none) 12 1000 (by kernel_rfl) (by kernel_rfl) (by intro o ho; first | (cases ho; done) | (cases ho; intro _ _ _ _ h; exact h)) ?_
                    simp only [List.take_succ_cons, List.take_zero, List.drop_succ_cons, List.drop_zero]
                    refine wpMk_quiet 3 _ _ _ rfl rfl ?_
                    simp only [List.take_succ_cons, List.take_zero, List.drop_succ_cons, List.drop_zero]
                    repeat (go_big_quiet_step (fail))
                    refine wpQuiet_nil ?_
                    refine wpMk_make _ 58 rfl rfl (by simp) (fun x hneed => by { go_wp2_with (go_at_call 112; refine (l1Num_w _ _).mono ?_; rintro e x' ⟨hb, s, rfl, hs⟩); exact mkS.gives hb hs }) rfl ?_
                    rintro v58 b58 e58 ⟨s58, rfl, hs58⟩
                    simp only [Act.put, List.setIfInBounds_toArray, List.set_cons_zero, List.set_cons_succ]
                    refine wpMk_quiet 8 _ _ _ rfl rfl ?_
                    simp only [List.take_succ_cons, List.take_zero, List.drop_succ_cons, List.drop_zero]
                    repeat (go_big_quiet_step (fail))
                    refine wpQuiet_nil ?_
                    rintro x hbx - hdis hord
                    have HXB : Hid (Below wr3.heap.size wr3 x) := Lib.hid (HB5.out.trans ((HBE.out.trans (hbx.mono HBE.out.size)).mono HB5.out.size))
                    have q5 := (hbx.cell (p := ⟨gt, un, none⟩) zT).trans q4
                    have kE5 : ∀ o, x.cell? ⟨wr4.heap.size, o, none⟩ = (#[.int .i64 (un : Nat), .int .i64 (pn : Nat)] : Array Value)[o]? := fun o => (hbx.cell (p := ⟨wr4.heap.size, o, none⟩) zE).trans (kE o)
                    clear hdis hord hbx
                    cases lg with
                    | true =>
                      go_wp2_with fail
                      go_roundw
                      case rel => exact ⟨i + 1, _, true, by omega, by go_num, rfl, rfl, by simp only [ByteArray.size_append, h1c]; omega, HXB.out⟩
                      case measure => simp [intOf]; omega
                    | false =>
                      go_wp2_with fail
                      go_roundw
                      case rel => exact ⟨i + 1, _, tv.toList.isEmpty, by omega, by go_num, rfl, rfl, by simp only [ByteArray.size_append, h1c]; omega, HXB.out⟩
                      case measure => simp [intOf]; omega
                · obtain rfl : i = dg := by omega
                  have FIN := Lib.hid (show ∀ (X : ByteArray) (A5 : Option Addr) (c5 : Nat) (w5 : World), X.size ≤ 4000 →
                      OwnG encS 9 w5 wr2.heap.size (.slice A5 (j + 1) c5) (ys ++ [X]) →
                      (wr4.alloc (.cells #[.string X] 9)).grownBy w5 (Value.slice A7 j c7).ownBlock →
                      OwnG encS 9 w5 wr2.heap.size (.slice A5 (j + 1) c5) (ys ++ [X]) ∧
                      OwnG encS 9 w5 (w.heap.size + 1) (.slice At N.ends.length ct) xs ∧
                      Blk w5 w.heap.size 27 #[.slice (some ⟨b, off, none⟩) N.ends.length c, .slice A1 N.ids.length c1, .slice A2 N.inputs.length c2] ∧ Below w.heap.size w w5 ∧ wr2.heap.size ≤ w5.heap.size by
                    intro X A5 c5 w5 hX ho5 hg5
                    have hbx := HB5.out.alloc HB5.out.size (.cells #[.string X] 9)
                    have hl7 := fun g hg => (HNX.out.lt g hg).1
                    have hz4 := hbx.size
                    have hz5 := hg5.size
                    refine ⟨ho5, ?_, ?_, ?_, by omega⟩
                    · exact (HOT3.out.below hbx).keepB fun b hv => hg5.block b (by have := (HOT3.out.lt b hv).2; omega) (fun e => by have := hl7 b e.symm; have := LT.out b hv; omega)
                    · exact (hg5.block _ (by have := HK3.out.lt; omega) (fun e => by have := hl7 _ e.symm; omega)).trans (HK3.out.below hbx)
                    · exact (HB3.out.trans (hbx.mono (by have := HB3.out.size; omega))).grown hg5 (by have := HB3.out.size; omega) (fun g hg => by have := hl7 g hg; omega))
                  have hz4 := HB5.out.size
                  have h1c : ({ data := #[41] } : ByteArray).size = 1 := rfl
                  by_cases hd0 : i = 0
                  · have hs3 : s.size ≤ 41 := by subst hd0; omega
                    have g0 : ¬ (0 : Int) < (i : Int) := by omega
                    have g1 : ¬ (4000 : Int) < (s.size : Int) := by omega
                    cases lg with
                    | true =>
                      have HZ : Hid (({ data := #[] } : ByteArray).size ≤ 4000) := Lib.hid (Nat.zero_le _)
                      go_upto_region 28 with (refine wpList_append_G strT (S := fun _ => True) _ rfl (.tmp 88) (.tmp 90) rfl wr2.heap.size (.slice A7 j c7) ys rfl (HNX.out.below (HB5.out.alloc HB5.out.size _)) _ [({ data := #[] } : ByteArray)] rfl (SlR.oneS (Blk.newAt rfl)) (by have := HYL.out; simp; omega) (by simp; omega) ?_; rw [HYL.out]; intro A5 c5 w5 ho5 hg5 hl5)
                      obtain ⟨f1, f2, f3, f4, f5⟩ := FIN.out _ A5 c5 w5 HZ.out ho5 hg5
                      have F0 := Lib.hid (HSY.out.snoc HZ.out)
                      have F1 := Lib.hid f1
                      have F2 := Lib.hid f2
                      have F3 := Lib.hid f3
                      have F4 := Lib.hid f4
                      clear f1 f2 f3 f4 ho5 hg5 hl5
                      go_wp2_with fail
                      go_roundw
                      case rel => exact ⟨j + 1, A5, c5, ys ++ [({ data := #[] } : ByteArray)], by omega, by go_num, rfl, by rw [List.length_append, HYL.out]; rfl, F0.out, F1.out, F2.out, F3.out, F4.out, f5⟩
                      case measure => simp [intOf]; omega
                    | false =>
                      have HZ : Hid (s.size ≤ 4000) := Lib.hid (by omega)
                      go_upto_region 28 with (refine wpList_append_G strT (S := fun _ => True) _ rfl (.tmp 88) (.tmp 90) rfl wr2.heap.size (.slice A7 j c7) ys rfl (HNX.out.below (HB5.out.alloc HB5.out.size _)) _ [s] rfl (SlR.oneS (Blk.newAt rfl)) (by have := HYL.out; simp; omega) (by simp; omega) ?_; rw [HYL.out]; intro A5 c5 w5 ho5 hg5 hl5)
                      obtain ⟨f1, f2, f3, f4, f5⟩ := FIN.out _ A5 c5 w5 HZ.out ho5 hg5
                      have F0 := Lib.hid (HSY.out.snoc HZ.out)
                      have F1 := Lib.hid f1
                      have F2 := Lib.hid f2
                      have F3 := Lib.hid f3
                      have F4 := Lib.hid f4
                      clear f1 f2 f3 f4 ho5 hg5 hl5
                      go_wp2_with fail
                      go_roundw
                      case rel => exact ⟨j + 1, A5, c5, ys ++ [s], by omega, by go_num, rfl, by rw [List.length_append, HYL.out]; rfl, F0.out, F1.out, F2.out, F3.out, F4.out, f5⟩
                      case measure => simp [intOf]; omega
                  · have g0 : (0 : Int) < (i : Int) := by omega
                    have hs9 : s.size ≤ 3000000 := by omega
                    cases lg with
                    | true =>
                      have HZ : Hid (({ data := #[] } : ByteArray).size ≤ 4000) := Lib.hid (Nat.zero_le _)
                      go_upto_region 28 with (refine wpList_append_G strT (S := fun _ => True) _ rfl (.tmp 88) (.tmp 90) rfl wr2.heap.size (.slice A7 j c7) ys rfl (HNX.out.below (HB5.out.alloc HB5.out.size _)) _ [({ data := #[] } : ByteArray)] rfl (SlR.oneS (Blk.newAt rfl)) (by have := HYL.out; simp; omega) (by simp; omega) ?_; rw [HYL.out]; intro A5 c5 w5 ho5 hg5 hl5)
                      obtain ⟨f1, f2, f3, f4, f5⟩ := FIN.out _ A5 c5 w5 HZ.out ho5 hg5
                      have F0 := Lib.hid (HSY.out.snoc HZ.out)
                      have F1 := Lib.hid f1
                      have F2 := Lib.hid f2
                      have F3 := Lib.hid f3
                      have F4 := Lib.hid f4
                      clear f1 f2 f3 f4 ho5 hg5 hl5
                      go_wp2_with fail
                      go_roundw
                      case rel => exact ⟨j + 1, A5, c5, ys ++ [({ data := #[] } : ByteArray)], by omega, by go_num, rfl, by rw [List.length_append, HYL.out]; rfl, F0.out, F1.out, F2.out, F3.out, F4.out, f5⟩
                      case measure => simp [intOf]; omega
                    | false =>
                      by_cases hlen : s.size + 1 ≤ 4000
                      · have g1 : ¬ (4000 : Int) < (s.size : Int) + 1 := by omega
                        have HZ : Hid ((s ++ { data := #[41] }).size ≤ 4000) := Lib.hid (by rw [ByteArray.size_append, h1c]; exact hlen)
                        clear hlen
                        go_upto_region 28 with (refine wpList_append_G strT (S := fun _ => True) _ rfl (.tmp 88) (.tmp 90) rfl wr2.heap.size (.slice A7 j c7) ys rfl (HNX.out.below (HB5.out.alloc HB5.out.size _)) _ [s ++ ({ data := #[41] } : ByteArray)] rfl (SlR.oneS (Blk.newAt rfl)) (by have := HYL.out; simp; omega) (by simp; omega) ?_; rw [HYL.out]; intro A5 c5 w5 ho5 hg5 hl5)
                        obtain ⟨f1, f2, f3, f4, f5⟩ := FIN.out _ A5 c5 w5 HZ.out ho5 hg5
                        have F0 := Lib.hid (HSY.out.snoc HZ.out)
                        have F1 := Lib.hid f1
                        have F2 := Lib.hid f2
                        have F3 := Lib.hid f3
                        have F4 := Lib.hid f4
                        clear f1 f2 f3 f4 ho5 hg5 hl5
                        go_wp2_with fail
                        go_roundw
                        case rel => exact ⟨j + 1, A5, c5, ys ++ [s ++ ({ data := #[41] } : ByteArray)], by omega, by go_num, rfl, by rw [List.length_append, HYL.out]; rfl, F0.out, F1.out, F2.out, F3.out, F4.out, f5⟩
                        case measure => simp [intOf]; omega
                      · have g1 : (4000 : Int) < (s.size : Int) + 1 := by omega
                        have HZ : Hid (({ data := #[] } : ByteArray).size ≤ 4000) := Lib.hid (Nat.zero_le _)
                        clear hlen
                        go_upto_region 28 with (refine wpList_append_G strT (S := fun _ => True) _ rfl (.tmp 88) (.tmp 90) rfl wr2.heap.size (.slice A7 j c7) ys rfl (HNX.out.below (HB5.out.alloc HB5.out.size _)) _ [({ data := #[] } : ByteArray)] rfl (SlR.oneS (Blk.newAt rfl)) (by have := HYL.out; simp; omega) (by simp; omega) ?_; rw [HYL.out]; intro A5 c5 w5 ho5 hg5 hl5)
                        obtain ⟨f1, f2, f3, f4, f5⟩ := FIN.out _ A5 c5 w5 HZ.out ho5 hg5
                        have F0 := Lib.hid (HSY.out.snoc HZ.out)
                        have F1 := Lib.hid f1
                        have F2 := Lib.hid f2
                        have F3 := Lib.hid f3
                        have F4 := Lib.hid f4
                        clear f1 f2 f3 f4 ho5 hg5 hl5
                        go_wp2_with fail
                        go_roundw
                        case rel => exact ⟨j + 1, A5, c5, ys ++ [({ data := #[] } : ByteArray)], by omega, by go_num, rfl, by rw [List.length_append, HYL.out]; rfl, F0.out, F1.out, F2.out, F3.out, F4.out, f5⟩
                        case measure => simp [intOf]; omega
            · obtain rfl : j = N.ends.length := by omega
              go_wp2_with fail
              go_roundw
              case rel => exact ⟨k + 1, A7, c7, ys, by omega, congrArg (Value.int .i64) (by have := HTK.out; omega), rfl, HYL.out, HSY.out, HNX.out.mono (by omega), HK3.out, HB3.out, by omega⟩
              case measure => have := HTK.out; simp [intOf]; omega
        · obtain rfl : k = t := by omega
          have e1 : ((k - k : Nat) : Int) = 0 := by omega
          rw [e1]
          go_wp2_with fail
          go_ret
          exact ⟨At, ct, xs, HXL.out, HSM.out, rfl, HOT.out.mono (by omega), HBT.out⟩
end Go.Proofs.YtljjbhihllnnaaaGreat
