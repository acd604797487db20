/- The reference's texts of views: digits as texts, the text of a beginning. -/
import Derived.Test.YtclkboemgneojaaVs4
import Derived.Laws.IdiomStrings
import Derived.Laws.Concat
import Derived.Laws.Strings
namespace Go.Proofs.Ytclkboemgneojaa
open Go.RowKit
attribute [local go_sem] BW.cell BW.frozen strB_size

theorem txts_snoc {k : Nat} : ∀ {ts : List VT} {ps : List Nat} {s : UInt8} {j : Nat}, j < ts.length → ps.length = ts.length →
    txts k s (ps.take (j + 1)) (ts.take (j + 1)) = txts k s (ps.take j) (ts.take j) ++ (if j = 0 then s else 44) :: dch (ga ps j) :: 58 :: (ga ts j).txt k
  | [], _, _, _, h, _ => by simp at h
  | t :: ts, [], _, _, _, h => by simp at h
  | t :: ts, p :: ps, s, 0, _, _ => by simp [txts, ga]
  | t :: ts, p :: ps, s, j + 1, h, hl => by
    have ih := txts_snoc (k := k) (ts := ts) (ps := ps) (s := 44) (j := j) (by simpa using h) (by simpa using hl)
    simp only [List.take_succ_cons, txts, ih]
    have e1 : ga (p :: ps) (j + 1) = ga ps j := by simp [ga]
    have e2 : ga (t :: ts) (j + 1) = ga ts j := by simp [ga]
    rw [e1, e2]
    simp
theorem txts_all {k : Nat} {s : UInt8} {ts : List VT} {ps : List Nat} (hl : ps.length = ts.length) : txts k s (ps.take ts.length) (ts.take ts.length) = txts k s ps ts := by
  rw [List.take_of_length_le (Nat.le_refl _), List.take_of_length_le (by omega)]
theorem txts_part {k : Nat} {s : UInt8} {ts : List VT} {ps : List Nat} {j : Nat} (hj : j < ts.length) (hl : ps.length = ts.length) : (txts k s (ps.take (j + 1)) (ts.take (j + 1))).length ≤ (txts k s ps ts).length := by
  have key : ∀ n, j + 1 + n ≤ ts.length → (txts k s (ps.take (j + 1)) (ts.take (j + 1))).length ≤ (txts k s (ps.take (j + 1 + n)) (ts.take (j + 1 + n))).length := by
    intro n
    induction n with
    | zero => intro _; exact Nat.le_refl _
    | succ n ih =>
      intro h
      have := ih (by omega)
      rw [show j + 1 + (n + 1) = (j + 1 + n) + 1 by omega, txts_snoc (j := j + 1 + n) (by omega) hl, List.length_append]
      exact Nat.le_trans this (Nat.le_add_right _ _)
  have := key (ts.length - (j + 1)) (by omega)
  rwa [show j + 1 + (ts.length - (j + 1)) = ts.length by omega, txts_all hl] at this

set_option maxRecDepth 100000 in
set_option maxHeartbeats 1000000 in
theorem l1Num_dig (n : Nat) (w : World) (hn : n ≤ 9) : Calls Try.prog 127 #[.int .i64 (n : Nat)] w (RetV w (.string (strB [dch n]))) := by
  have e1 : (n : Int) < 10 := by omega
  have hd := dch_nat hn
  have hcv : (convert 35 9 (.slice (some ⟨w.heap.size, 0, none⟩) 1 1)).run Try.prog (w.alloc (.cells #[.int .u8 (48 + (n : Int))] 5)) = .ok (.string (strB [dch n])) (w.alloc (.cells #[.int .u8 (48 + (n : Int))] 5)) :=
    run_convert_bytes_back _ _ _ _ _ _ [dch n] Try.underlying35 Try.underlying5 Try.underlying9 (fun j hj => by
      obtain rfl : j = 0 := by simpa using hj
      rw [addr_add, (Blk.new w 5 #[.int .u8 (48 + (n : Int))]).cell]
      simp [hd])
  clear hd
  go_enter Try.func127, Try.ntmps127
  go_wp2_with fail
  go_ret
  exact ⟨rfl, (Below.refl _ _).alloc (Nat.le_refl _) _⟩

theorem head_txt {d i : Nat} : strB [dch d] ++ strB [46] ++ strB [dch i] = strB [dch d, 46, dch i] := by rw [strB_app, strB_app]; rfl

theorem wfs_at {ts : List VT} {ps : List Nat} (h : wfs ps ts = true) {j : Nat} (hj : j < ts.length) : ga ps j ≤ 5 ∧ ga ps j < (ga ts j).deg ∧ (ga ts j).wf = true := by
  induction ts generalizing ps j with
  | nil => simp at hj
  | cons t ts ih =>
    cases ps with
    | nil => simp [wfs] at h
    | cons p ps =>
      obtain ⟨h1, h2, h3, h4⟩ := wfs_cons.1 h
      cases j with
      | zero => simpa [ga] using ⟨h1, h2, h3⟩
      | succ j => have := ih h4 (j := j) (by simpa using hj); simpa [ga] using this

set_option maxRecDepth 100000 in
set_option maxHeartbeats 2000000 in
theorem viPrint_any (n : Nat) : ∀ (t : VT) (w : World) (S : Nat → Prop) (p k : Nat), t.dep < n → TreeR w S t p → t.wf = true → (t.txt k).length ≤ 4000 → k ≤ 1000 →
    Calls Try.prog 51 #[.pointer (some ⟨p, 0, none⟩), .int .i64 (k : Nat)] w (RetV w (.string (strB (t.txt k)))) := by
  induction n with
  | zero => intro t w S p k h; omega
  | succ n ih =>
    intro t w S p k hn h hwf hlen hk
    obtain ⟨d, i, ps, ts⟩ := t
    have HTR := Lib.hid h
    simp only [TreeR] at h
    obtain ⟨hS, hl, vp, vt, qs, c0, c1, c2, c3, c4, hp, ht, hts⟩ := h
    obtain ⟨wd, wi, wl, wc, wps⟩ := wf_mk.1 hwf
    rw [dep_mk] at hn
    have IH := Lib.hid ih
    have HT := Lib.hid hts
    have hq : qs.length = ts.length := hts.len
    obtain ⟨A, c, rfl, hnc, hm, hx⟩ := ht
    obtain ⟨A', c', rfl, hnc', hm', hx'⟩ := hp
    rw [hq] at hnc hx c3
    rw [zs_len, wl] at hnc' hx' c2
    unfold maxLen at hm hm'
    have HX := Lib.hid hx
    have HX' := Lib.hid hx'
    have HQ := Lib.hid hq
    have HN := Lib.hid hn
    have HL := Lib.hid hlen
    have HWL := Lib.hid wl
    have HWP := Lib.hid wps
    clear ih hts hx hx' hq hn hlen wl wc wps hwf
    go_enter Try.func51, Try.ntmps51
    go_wp2_with fail
    refine wp_region_below (by kernel_rfl) (by kernel_rfl) ?_
    repeat (go_big_quiet_step ((go_at_call 127; exact quietB (l1Num_dig _ _ (by omega)))))
    refine wpQuiet_nil ?_
    rintro _ ⟨x, rfl⟩
    have HXB := Lib.hid x.h
    obtain ⟨h0, hh0⟩ : ∃ h0, h0 = strB [dch d] ++ { data := #[46] } ++ strB [dch i] := ⟨_, rfl⟩
    have HH0 : Hid (h0 = strB [dch d, 46, dch i]) := Lib.hid (by rw [hh0]; exact head_txt)
    rw [← hh0]
    have hs0 : h0.size ≤ 3 := by rw [HH0.out, strB_size]; simp
    clear hh0
    have kr : ∀ o, x.wd.cell? ⟨p, o, none⟩ = w.cell? ⟨p, o, none⟩ := fun o => HXB.out.cell (p := ⟨p, o, none⟩) hl
    have k2 := (kr 2).trans c2
    have k3 := (kr 3).trans c3
    clear kr c0 c1 c2 c3 c4
    by_cases hz : k = 0 ∨ ts.length = 0
    · have HE : Hid ((VT.mk d i ps ts).txt k = [dch d, 46, dch i]) := Lib.hid (by
        rw [txt_mk, if_pos (by rcases hz with h | h; exact .inl h; exact .inr (by simpa using h))])
      by_cases hk0 : k = 0
      · have e1 : ((k : Int) == 0) = true := by simp [hk0]
        clear hz hk0
        go_wp2_with fail
        go_ret
        exact ⟨by rw [HE.out, HH0.out]; rfl, HXB.out⟩
      · have e1 : ((k : Int) == 0) = false := by simp [hk0]
        have e2 : ((ts.length : Int) == 0) = true := by rw [beq_iff_eq]; omega
        clear hz hk0
        go_wp2_with fail
        go_ret
        exact ⟨by rw [HE.out, HH0.out]; rfl, HXB.out⟩
    have e1 : ((k : Int) == 0) = false := by simp; omega
    have e2 : ((ts.length : Int) == 0) = false := by rw [beq_eq_false_iff_ne]; omega
    have hkp : 0 < k := by omega
    have htp : 0 < ts.length := by omega
    have hte : ¬ (k = 0 ∨ ts.isEmpty = true) := fun h => hz (by rcases h with h | h; exact .inl h; exact .inr (by simpa using h))
    have HE : Hid ((VT.mk d i ps ts).txt k = [dch d, 46, dch i] ++ txts (k - 1) 40 ps ts ++ [41]) := Lib.hid (by rw [txt_mk, if_neg hte]; rfl)
    have HL2 : Hid ((txts (k - 1) 40 ps ts).length + 4 ≤ 4000) := Lib.hid (by have := HL.out; rw [HE.out] at this; simp only [List.length_append, List.length_cons, List.length_nil] at this; omega)
    clear hz hte
    go_wp2_with fail
    go_loopw [36, 5] (fun xi xs wr => ∃ (j : Nat) (S0 : ByteArray), j ≤ ts.length ∧ xi = .int .i64 j ∧ xs = .string S0 ∧ S0 = strB ([dch d, 46, dch i] ++ txts (k - 1) 40 (ps.take j) (ts.take j)) ∧ Below w.heap.size w wr) (fun xi _ _ => ts.length - (intOf xi).toNat)
    case atStart => exact ⟨0, h0, Nat.zero_le _, rfl, rfl, by rw [HH0.out]; simp [txts], HXB.out⟩
    case round =>
      obtain ⟨j, S0, hj, rfl, rfl, hS0, hbel⟩ := hrel
      have HS0 := Lib.hid hS0
      have HB := Lib.hid hbel
      have hsz : S0.size ≤ 4000 := by
        rw [hS0, strB_size]
        by_cases h0 : j = 0
        · subst h0; simp [txts]
        · have := txts_part (k := k - 1) (s := 40) (ts := ts) (ps := ps) (j := j - 1) (by omega) HWL.out
          rw [show j - 1 + 1 = j by omega] at this
          have := HL2.out
          simp; omega
      clear hS0 hbel
      by_cases hlt : j < ts.length
      · obtain ⟨b, off, rfl, -, hlb, hc⟩ := HX.out (by have := HQ.out; omega)
        obtain ⟨b', off', rfl, -, hc'⟩ := HX'.out (by omega)
        have cj0 : w.cell? ⟨b, off + j, none⟩ = some (.pointer (some ⟨ga qs j, 0, none⟩)) := by
          have := hc j (by have := HQ.out; omega) 0 (by decide)
          simpa [encP] using this
        have cp0 : w.cell? ⟨b', off' + j, none⟩ = some (.int .i64 (ga ps j : Nat)) := by
          have := hc' j (by have := HWL.out; omega)
          rw [gi_zs (by have := HWL.out; omega)] at this
          exact this
        have hlb' := lt_of_cell cp0
        have cj : wr.cell? ⟨b, off + j, none⟩ = some (.pointer (some ⟨ga qs j, 0, none⟩)) := (HB.out.cell (p := ⟨b, off + j, none⟩) hlb).trans cj0
        have cp : wr.cell? ⟨b', off' + j, none⟩ = some (.int .i64 (ga ps j : Nat)) := (HB.out.cell (p := ⟨b', off' + j, none⟩) hlb').trans cp0
        have cq : wr.cell? ⟨p, 2, none⟩ = some (.slice (some ⟨b', off', none⟩) ts.length c') := (HB.out.cell (p := ⟨p, 2, none⟩) hl).trans ((HXB.out.cell (p := ⟨p, 2, none⟩) hl).symm.trans k2)
        have i1 : (0 : Int) ≤ (j : Int) := by omega
        have i2 : (j : Int) < (ts.length : Int) := by omega
        obtain ⟨wg1, wg2, wg3⟩ := wfs_at HWP.out hlt
        have HW3 := Lib.hid wg3
        have ek : (k : Int) - 1 = ((k - 1 : Nat) : Int) := by omega
        have HEK := Lib.hid ek
        have hsn := txts_snoc (k := k - 1) (s := 40) hlt HWL.out
        have hpt := txts_part (k := k - 1) (s := 40) hlt HWL.out
        have hll : (txts (k - 1) 40 (ps.take j) (ts.take j)).length + 3 + ((ga ts j).txt (k - 1)).length ≤ 3996 := by
          rw [hsn] at hpt
          have := HL2.out
          simp only [List.length_append, List.length_cons] at hpt; omega
        have HC := Lib.hid (fun W (hb : Below w.heap.size w W) => IH.out (ga ts j) W S (ga qs j) (k - 1) (by have := HN.out; have := deps_ge (ga_mem hlt); omega) ((HT.out.below hb).at_ hlt) HW3.out (by omega) (by omega))
        have HSN := Lib.hid hsn
        have hs1 : S0.size + 3 + ((ga ts j).txt (k - 1)).length ≤ 4000 := by
          rw [HS0.out, strB_size]; simp; omega
        clear hc hc' ek hsn hpt cj0 cp0 k2 k3 hll
        by_cases hj0 : j = 0
        all_goals
          try have e3 : ((j : Int) == 0) = true := by simp [hj0]
          try have e3 : ((j : Int) == 0) = false := by simp [hj0]
          have HJ := Lib.hid hj0
          clear hj0
          go_wp2_with (first
            | (go_at_call 127; refine (l1Num_dig _ _ (by omega)).mono ?_; rintro e w1 ⟨rfl, hb1⟩; have HB1 := Lib.hid (Below.then_ HB.out hb1); clear hb1)
            | (go_at_call 51; rw [HEK.out]; refine (HC.out _ HB1.out).mono ?_; rintro e w2 ⟨rfl, hb2⟩; have HB2 := Lib.hid (Below.then_ HB1.out hb2); clear hb2))
          go_roundw
          case rel =>
            refine ⟨j + 1, _, by omega, by go_num, rfl, ?_, HB2.out⟩
            rw [HSN.out, HS0.out]
            apply bytes_ext
            simp [strB, HJ.out]
          case measure => simp [intOf]; omega
      · obtain rfl : j = ts.length := by omega
        go_wp2_with fail
        go_ret
        refine ⟨?_, HB.out⟩
        rw [HE.out, HS0.out, txts_all HWL.out, ← strB_app _ [41]]
        rfl
end Go.Proofs.Ytclkboemgneojaa
