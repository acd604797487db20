/- The program's texts of views: digits, the text of a beginning, written into a builder. -/
import Derived.Test.YtljjbhihllnnaaaGreatCJn31
import Derived.Test.YtljjbhihllnnaaaGreatCJn4
import Derived.Test.YtljjbhihllnnaaaGreatCVs4
import Derived.Test.YtljjbhihllnnaaaGreatCJn23
import Derived.Laws.IdiomStrings
import Derived.Laws.Concat
import Derived.Laws.Strings
namespace Go.Proofs.YtljjbhihllnnaaaGreat
open Go.RowKit

set_option maxRecDepth 100000 in
set_option maxHeartbeats 2000000 in
theorem write_any (n : Nat) : ∀ (t : VT) (w : World) (B b p k : Nat) (l : List UInt8), t.dep < n → TreeR w (fun q => q < B) t p → t.wf = true → l.length + (t.txt k).length ≤ 4000 → k ≤ 1000 → BldR w B b l → B ≤ w.heap.size →
    Calls Tryz.prog 115 #[.pointer (some ⟨p, 0, none⟩), .pointer (some ⟨b, 0, none⟩), .int .i64 (k : Nat)] w (RetW w B b (l ++ t.txt k) (.tuple #[])) := by
  induction n with
  | zero => intro t w B b p k l h; omega
  | succ n ih =>
    intro t w B b p k l hn h hwf hlen hk hbld hB
    obtain ⟨d, i, ps, ts⟩ := t
    have HTR := Lib.hid h
    simp only [TreeR] at h
    obtain ⟨hS, hl, vp, vt, qs, c0, c1, c2, c3, c4, hp, ht, hts⟩ := h
    obtain ⟨wd, wi, wl, wc, wps⟩ := wf_mk.1 hwf
    rw [dep_mk] at hn
    have IH := Lib.hid ih
    have HT := Lib.hid hts
    have HBL := Lib.hid hbld
    have hbl : b < w.heap.size := by rcases hbld with ⟨_, v, hk, _⟩ | ⟨_, v, hk, _⟩ <;> exact hk.lt
    have hq : qs.length = ts.length := hts.len
    obtain ⟨A, c, rfl, hnc, hm, hx⟩ := ht
    obtain ⟨A', c', rfl, hnc', hm', hx'⟩ := hp
    rw [hq] at hnc hx c3
    rw [zs_len, wl] at hnc' hx' c2
    unfold maxLen at hm hm'
    have HX := Lib.hid hx
    have HX' := Lib.hid hx'
    have HQ := Lib.hid hq
    have HN := Lib.hid hn
    have HL := Lib.hid hlen
    have HWL := Lib.hid wl
    have HWP := Lib.hid wps
    have hpb : p < B := hS
    have hln : l.length + 3 ≤ 4000 := by
      rw [txt_mk] at hlen
      simp only [List.length_cons] at hlen; omega
    clear ih hts hx hx' hq hn hlen wl wc wps hwf hbld hS
    go_enter Tryz.func115, Tryz.ntmps115
    go_wp2_with fail
    have hA0 : Below w.heap.size w (w.alloc (.cells #[.int .u8 (48 + (d : Int)), .int .u8 46, .int .u8 (48 + (i : Int))] 5)).drew := ((Below.refl w.heap.size w).alloc (Nat.le_refl _) _).drew
    have HA0 := Lib.hid hA0
    have HBA := Lib.hid (HBL.out.below hA0)
    have HSA : Hid (SlR encB (w.alloc (.cells #[.int .u8 (48 + (d : Int)), .int .u8 46, .int .u8 (48 + (i : Int))] 5)).drew (fun q => q ≠ b) (.slice (some ⟨w.heap.size, 0, none⟩) 3 3) [dch d, 46, dch i]) := Lib.hid (SlR.three (Blk.drew_ (Blk.new w 5 _)) (dch_int (by omega)) rfl (dch_int (by omega)) (by omega))
    have kA0 := (hA0.cell (p := ⟨p, 0, none⟩) hl).trans c0
    have kA1 := (hA0.cell (p := ⟨p, 1, none⟩) hl).trans c1
    have hBA : B ≤ (w.alloc (.cells #[.int .u8 (48 + (d : Int)), .int .u8 46, .int .u8 (48 + (i : Int))] 5)).drew.heap.size := by have := hA0.size; omega
    clear hA0
    go_region_held3 (fun W => W.cell? ⟨p, 0, none⟩ = some (.int .i64 (d : Nat)) ∧ W.cell? ⟨p, 1, none⟩ = some (.int .i64 (i : Nat)))
      (first | exact ⟨c0, c1⟩ | exact ⟨kA0, kA1⟩ | exact ⟨(hl3.cell (p := ⟨p, 0, none⟩) hpb).trans kA0, (hl3.cell (p := ⟨p, 1, none⟩) hpb).trans kA1⟩)
      (first
        | (go_at_call 108; refine (digit_any _ _ (by omega)).mono ?_; rintro e w' ⟨rfl, rfl⟩)
        | (go_at_call 107; refine (bldWrite_any B b l [dch d, 46, dch i] _ _ HBA.out HSA.out (fun _ h => h) hln hBA).mono ?_; rintro e w3 ⟨rfl, hb3, hl3⟩))
    have HBW := Lib.hid hb3
    have HLW := Lib.hid ((HA0.out.mono hB).trans hl3)
    have hz3 : B ≤ w3.heap.size := by have := HLW.out.size; omega
    have k3 := (HLW.out.cell (p := ⟨p, 3, none⟩) hpb).trans c3
    clear hb3 hl3 kA0 kA1 HBA HSA HA0 hBA c0 c1 c3 c4
    obtain ⟨l0, hl0⟩ : ∃ l0, l0 = l ++ [dch d, 46, dch i] := ⟨_, rfl⟩
    rw [← hl0] at HBW
    have HL0 := Lib.hid hl0
    clear hl0
    by_cases hz : k = 0 ∨ ts.length = 0
    · have HE : Hid (l ++ (VT.mk d i ps ts).txt k = l0) := Lib.hid (by
        rw [HL0.out, txt_mk, if_pos (by rcases hz with h | h; exact .inl h; exact .inr (by simpa using h))])
      by_cases hk0 : k = 0
      · have e1 : ((k : Int) == 0) = true := by simp [hk0]
        clear hz hk0
        go_wp2_with fail
        go_end0
        exact ⟨rfl, by rw [HE.out]; exact HBW.out, HLW.out⟩
      · have e1 : ((k : Int) == 0) = false := by simp [hk0]
        have e2 : ((ts.length : Int) == 0) = true := by rw [beq_iff_eq]; omega
        clear hz hk0
        go_wp2_with fail
        go_end0
        exact ⟨rfl, by rw [HE.out]; exact HBW.out, HLW.out⟩
    have e1 : ((k : Int) == 0) = false := by simp; omega
    have e2 : ((ts.length : Int) == 0) = false := by rw [beq_eq_false_iff_ne]; omega
    have hkp : 0 < k := by omega
    have htp : 0 < ts.length := by omega
    have hte : ¬ (k = 0 ∨ ts.isEmpty = true) := fun h => hz (by rcases h with h | h; exact .inl h; exact .inr (by simpa using h))
    have HE : Hid (l ++ (VT.mk d i ps ts).txt k = l0 ++ txts (k - 1) 40 ps ts ++ [41]) := Lib.hid (by rw [HL0.out, txt_mk, if_neg hte]; simp)
    have HL2 : Hid (l0.length + (txts (k - 1) 40 ps ts).length + 1 ≤ 4000) := Lib.hid (by
      have h1 := HL.out
      have h2 := congrArg List.length HE.out
      rw [List.length_append] at h2
      rw [h2] at h1
      simp only [List.length_append, List.length_cons, List.length_nil] at h1; omega)
    clear hz hte
    go_wp2_with fail
    go_loopw [37, 6] (fun xi xb wr => ∃ (j : Nat) (z : Int), j ≤ ts.length ∧ xi = .int .i64 j ∧ xb = .int .u8 z ∧ z = (if j = 0 then 40 else 44) ∧ BldR wr B b (l0 ++ txts (k - 1) 40 (ps.take j) (ts.take j)) ∧ Below B w wr) (fun xi _ _ => ts.length - (intOf xi).toNat)
    case atStart => exact ⟨0, 40, Nat.zero_le _, rfl, rfl, rfl, by simp only [List.take_zero, txts, List.append_nil]; exact Or.inr HBW.out, HLW.out⟩
    case round =>
      obtain ⟨j, z, hj, rfl, rfl, hz, hbr, hbel⟩ := hrel
      have HZ := Lib.hid hz
      have HBR := Lib.hid hbr
      have HB := Lib.hid hbel
      have hzr : B ≤ wr.heap.size := by have := hbel.size; omega
      have hbr2 : b < wr.heap.size := by rcases hbr with ⟨_, v, hk, _⟩ | ⟨_, v, hk, _⟩ <;> exact hk.lt
      clear hz hbr hbel k3
      by_cases hlt : j < ts.length
      · obtain ⟨b1, off, rfl, hS1, hlb, hc⟩ := HX.out (by have := HQ.out; omega)
        obtain ⟨b2, off', rfl, hS2, hc'⟩ := HX'.out (by omega)
        have cj0 : w.cell? ⟨b1, off + j, none⟩ = some (.pointer (some ⟨ga qs j, 0, none⟩)) := by
          have := hc j (by have := HQ.out; omega) 0 (by decide)
          simpa [encP] using this
        have cp0 : w.cell? ⟨b2, off' + j, none⟩ = some (.int .i64 (ga ps j : Nat)) := by
          have := hc' j (by have := HWL.out; omega)
          rw [gi_zs (by have := HWL.out; omega)] at this
          exact this
        have cj : wr.cell? ⟨b1, off + j, none⟩ = some (.pointer (some ⟨ga qs j, 0, none⟩)) := (HB.out.cell (p := ⟨b1, off + j, none⟩) hS1).trans cj0
        have cp : wr.cell? ⟨b2, off' + j, none⟩ = some (.int .i64 (ga ps j : Nat)) := (HB.out.cell (p := ⟨b2, off' + j, none⟩) hS2).trans cp0
        have cq : wr.cell? ⟨p, 2, none⟩ = some (.slice (some ⟨b2, off', none⟩) ts.length c') := (HB.out.cell (p := ⟨p, 2, none⟩) hpb).trans c2
        have i1 : (0 : Int) ≤ (j : Int) := by omega
        have i2 : (j : Int) < (ts.length : Int) := by omega
        obtain ⟨wg1, wg2, wg3⟩ := wfs_at HWP.out hlt
        have HW3 := Lib.hid wg3
        have ek : (k : Int) - 1 = ((k - 1 : Nat) : Int) := by omega
        have HEK := Lib.hid ek
        have hsn := txts_snoc (k := k - 1) (s := 40) hlt HWL.out
        have hpt := txts_part (k := k - 1) (s := 40) hlt HWL.out
        have HSN : Hid (l0 ++ txts (k - 1) 40 (ps.take (j + 1)) (ts.take (j + 1)) = (l0 ++ txts (k - 1) 40 (ps.take j) (ts.take j)) ++ [(if j = 0 then 40 else 44), dch (ga ps j), 58] ++ (ga ts j).txt (k - 1)) := Lib.hid (by rw [hsn]; simp)
        have HLN : Hid ((l0 ++ txts (k - 1) 40 (ps.take j) (ts.take j)).length + 3 + ((ga ts j).txt (k - 1)).length ≤ 4000) := Lib.hid (by
          rw [hsn] at hpt
          have := HL2.out
          simp only [List.length_append, List.length_cons] at hpt ⊢; omega)
        generalize hl1 : l0 ++ txts (k - 1) 40 (ps.take j) (ts.take j) = l1 at HBR HSN HLN
        have hzz : z = (((if j = 0 then 40 else 44 : UInt8)).toNat : Nat) := by rw [HZ.out]; split <;> rfl
        have HA := Lib.hid ((Below.refl wr.heap.size wr).alloc (Nat.le_refl _) (.cells #[.int .u8 z, .int .u8 (48 + ((ga ps j : Nat) : Int)), .int .u8 58] 5))
        have HSA : Hid (SlR encB (wr.alloc (.cells #[.int .u8 z, .int .u8 (48 + ((ga ps j : Nat) : Int)), .int .u8 58] 5)) (fun q => q ≠ b) (.slice (some ⟨wr.heap.size, 0, none⟩) 3 3) [(if j = 0 then 40 else 44), dch (ga ps j), 58]) := Lib.hid (SlR.three (Blk.new wr 5 _) hzz (dch_int (by omega)) rfl (by omega))
        clear hc hc' ek hsn hpt cj0 cp0 hzz hl1
        go_wp2_with (first
          | (go_at_call 108; refine (digit_any _ _ (by omega)).mono ?_; rintro e w' ⟨rfl, rfl⟩)
          | (go_at_call 107; refine (bldWrite_any B b l1 [(if j = 0 then 40 else 44), dch (ga ps j), 58] _ _ (HBR.out.below HA.out) HSA.out (fun _ h => h) (by have := HLN.out; simp; omega) (by simp; omega)).mono ?_; rintro e w4 ⟨rfl, hb4, hl4⟩; have HB4 := Lib.hid hb4; have HL4 := Lib.hid (HB.out.trans ((HA.out.mono hzr).trans hl4)); clear hb4 hl4)
          | (go_at_call 115; rw [HEK.out]; refine (IH.out (ga ts j) _ B b (ga qs j) (k - 1) _ (by have := HN.out; have := deps_ge (ga_mem hlt); omega) ((TreesR.keep (fun _ h _ => h) HL4.out.size (fun q hq _ => HL4.out.block q hq) ts qs HT.out).at_ hlt) HW3.out (by have := HLN.out; simp; omega) (by omega) (.inr HB4.out) (by have := HL4.out.size; omega)).mono ?_; rintro e w5 ⟨rfl, hb5, hl5⟩; have HB5 := Lib.hid hb5; have HL5 := Lib.hid (HL4.out.trans hl5); clear hb5 hl5))
        go_roundw
        case rel =>
          refine ⟨j + 1, 44, by omega, by go_num, rfl, rfl, ?_, HL5.out⟩
          rw [HSN.out]
          exact .inr HB5.out
        case measure => simp [intOf]; omega
      · obtain rfl : j = ts.length := by omega
        go_wp2_with (go_at_call 109; refine (bldWriteByte_any B b _ 41 41 rfl wr HBR.out (by rw [txts_all HWL.out]; have := HL2.out; simp; omega) hzr).mono ?_; rintro e w6 ⟨rfl, hb6, hl6⟩; have HB6 := Lib.hid hb6; have HL6 := Lib.hid (HB.out.trans hl6); clear hb6 hl6)
        go_end0
        refine ⟨rfl, ?_, HL6.out⟩
        have := HB6.out
        rw [txts_all HWL.out] at this
        rw [HE.out]; exact this

set_option maxRecDepth 100000 in
set_option maxHeartbeats 1000000 in
theorem textTo_any {S : Nat → Prop} (t : VT) (w : World) (p k : Nat) (h : TreeR w S t p) (hwf : t.wf = true) (hlen : (t.txt k).length ≤ 4000) (hk : k ≤ 1000) :
    Calls Tryz.prog 60 #[.pointer (some ⟨p, 0, none⟩), .int .i64 (k : Nat)] w (RetV w (.string (strB (t.txt k)))) := by
  have HA := Lib.hid ((Below.refl w.heap.size w).alloc (Nat.le_refl _) (.cells #[.pointer none, .slice none 0 0] 86))
  have HT : Hid (TreeR (w.alloc (.cells #[.pointer none, .slice none 0 0] 86)) (fun q => q < w.heap.size) t p) := Lib.hid (TreeR.keep (fun _ _ h => h) HA.out.size (fun q _ hq => HA.out.block q hq) t p h)
  have HB : Hid (BldR (w.alloc (.cells #[.pointer none, .slice none 0 0] 86)) w.heap.size w.heap.size []) := Lib.hid (.inl ⟨Nat.le_refl _, .slice none 0 0, Blk.new _ _ _, OwnG.nil, by simp [Value.ownBlock]⟩)
  have HW := Lib.hid hwf
  clear h hwf
  go_enter Tryz.func60, Tryz.ntmps60
  go_wp2_with fail
  refine (write_any (t.dep + 1) t _ w.heap.size w.heap.size p k [] (by omega) HT.out HW.out (by simpa using hlen) hk HB.out (by simp)).mono ?_
  rintro e w1 ⟨rfl, hb1, hl1⟩
  have HB1 := Lib.hid hb1
  have HL1 := Lib.hid (HA.out.trans hl1)
  clear hb1 hl1
  go_wp2_with fail
  refine (Tryz.Builder_String_any w.heap.size w.heap.size (t.txt k) w1 (BldR.lib (.inr (by simpa using HB1.out))) HL1.out.size).mono ?_
  rintro e w2 ⟨rfl, hb2⟩
  have HL2 := Lib.hid (HL1.out.trans hb2)
  clear hb2
  go_wp2_with fail
  go_ret
  exact ⟨rfl, HL2.out⟩
end Go.Proofs.YtljjbhihllnnaaaGreat
