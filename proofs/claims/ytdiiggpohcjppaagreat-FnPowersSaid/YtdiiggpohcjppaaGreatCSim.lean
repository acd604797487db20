/- The program's test whether a network is simple, on networks that are. -/
import Derived.Test.YtdiiggpohcjppaaGreatCMpv
import Derived.Test.YtdiiggpohcjppaaGreatCJn35
import Derived.Carry
import Derived.Maps.OwnOps
set_option linter.unusedSimpArgs false
set_option linter.unusedVariables false
namespace Go.Proofs.YtdiiggpohcjppaaGreat
open Go.RowKit Go.Maps
def zd (N : Net) : Prop := ∀ k, k < N.ends.length → (∀ j, j < (gl N.ends k).length → (gp (gl N.ends k) j).1 ≠ k) ∧ ∀ i j, i < j → j < (gl N.ends k).length → (gp (gl N.ends k) i).1 ≠ (gp (gl N.ends k) j).1
open Classical in
noncomputable def iw (N : Net) (k j : Nat) : Value → Option Value := fun key => if key = .int .i64 (k : Int) ∨ ∃ i, i < j ∧ key = .int .i64 (gp (gl N.ends k) i).1 then some (.bool true) else none
theorem I9 (N : Net) (k : Nat) : iw N k 0 (.int .i64 (k : Int)) = some (.bool true) := by unfold iw; rw [if_pos (.inl rfl)]
theorem Ja {N : Net} {k : Nat} {x : Value} (h : x ≠ .int .i64 (k : Int)) : iw N k 0 x = none := by
 unfold iw
 rw [if_neg]
 rintro (h1 | ⟨i, hi, -⟩)
 ·exact h h1
 ·omega
theorem Na {N : Net} {k j : Nat} (hs : zd N) (hk : k < N.ends.length) (hj : j < (gl N.ends k).length) : iw N k j (.int .i64 (gp (gl N.ends k) j).1) = none := by
 unfold iw
 rw [if_neg]
 rintro (h1 | ⟨i, hi, h1⟩)
 ·exact (hs k hk).1 j hj (by injection h1)
 ·exact (hs k hk).2 i j hi hj (by injection h1 with _ h2; exact h2.symm)
theorem M9 (N : Net) (k j : Nat) : iw N k (j + 1) (.int .i64 (gp (gl N.ends k) j).1) = some (.bool true) := by
 unfold iw; rw [if_pos (.inr ⟨j, by omega, rfl⟩)]
theorem Nb {N : Net} {k j : Nat} {x : Value} (h : x ≠ .int .i64 (gp (gl N.ends k) j).1) : iw N k (j + 1) x = iw N k j x := by
 unfold iw
 have : (x = .int .i64 (k : Int) ∨ ∃ i, i < j + 1 ∧ x = .int .i64 (gp (gl N.ends k) i).1) ↔ (x = .int .i64 (k : Int) ∨ ∃ i, i < j ∧ x = .int .i64 (gp (gl N.ends k) i).1) := by
  constructor
  ·rintro (h1 | ⟨i, hi, h1⟩)
   ·exact .inl h1
   ·rcases Nat.lt_or_ge i j with h2 | h2
    ·exact .inr ⟨i, h2, h1⟩
    ·have : i = j := by omega
     subst this; exact absurd h1 h
  ·rintro (h1 | ⟨i, hi, h1⟩)
   ·exact .inl h1
   ·exact .inr ⟨i, by omega, h1⟩
 by_cases h1 : (x = .int .i64 (k : Int) ∨ ∃ i, i < j ∧ x = .int .i64 (gp (gl N.ends k) i).1)
 ·rw [if_pos h1, if_pos (this.2 h1)]
 ·rw [if_neg h1, if_neg fun h2 => h1 (this.1 h2)]
theorem sa : Keyed Tryz.prog 3 := int_keyed Tryz.underlying3
theorem zz : Tryz.prog.underlying 129 = some (.map 3 4) := Tryz.underlying129
theorem M8 (w : World) : (zeroValue 4).run Tryz.prog w = .ok (.bool false) w := by kernel_rfl
set_option maxRecDepth 100000 in
set_option maxHeartbeats 4000000 in
theorem E9 {S : Nat → Prop} (u : Value) (N : Net) (w : World) (h : NetR w S u N) (hl : N.ends.length ≤ 1000) (hd : ∀ k, k < N.ends.length → (gl N.ends k).length ≤ 1000) (hb : ∀ k j, k < N.ends.length → j < (gl N.ends k).length → -1000000 ≤ (gp (gl N.ends k) j).1 ∧ (gp (gl N.ends k) j).1 ≤ 1000000) (hs : zd N) :
 Calls Tryz.prog 83 #[u] w (o5 w (.bool true)) := by
 have HD := Lib.hid hd
 have HS := Lib.hid hs
 have HBD := Lib.hid hb
 obtain ⟨ve, vi, vn, rfl, he, hi, hn⟩ := h
 obtain ⟨A, c, rfl, -, hmc, hx⟩ := he
 obtain ⟨A1, c1, rfl, -, -, -⟩ := hi
 obtain ⟨A2, c2, rfl, -, -, -⟩ := hn
 unfold maxLen at hmc
 have HX := Lib.hid hx
 clear hx
 obtain ⟨wz, hwz⟩ : ∃ wz, wz = w.alloc (.cells #[.slice A N.ends.length c, .slice A1 N.ids.length c1, .slice A2 N.inputs.length c2] 27) := ⟨_, rfl⟩
 have hzs : wz.heap.size = w.heap.size + 1 := by rw [hwz]; simp
 have hbz : Below w.heap.size w wz := by rw [hwz]; exact (Below.refl _ _).alloc (by simp) _
 have HK : Hid (Blk wz w.heap.size 27 #[.slice A N.ends.length c, .slice A1 N.ids.length c1, .slice A2 N.inputs.length c2]) := Lib.hid (by rw [hwz]; exact Blk.new w _ _)
 have HB0 := Lib.hid hbz
 have HZ := Lib.hid hwz
 clear hd hwz hbz hs hb
 go_enter Tryz.func83, Tryz.ntmps83
 go_upto_region 1 with fail
 rw [← HZ.out]
 clear HZ
 have ka := HK.out.cell
 go_wp2_with fail
 clear ka
 go_loopw [11] (fun x11 wr => ∃ (k : Nat), k ≤ N.ends.length ∧ x11 = .int .i64 k ∧ Below wz.heap.size wz wr)
  (fun x11 _ => N.ends.length - (intOf x11).toNat)
 case atStart => exact ⟨0, Nat.zero_le _, rfl, Below.refl _ _⟩
 case round =>
  obtain ⟨k, hk, rfl, hbel⟩ := hrel
  obtain ⟨wr2, rfl⟩ : ∃ wr2, wr2 = wr := ⟨_, rfl⟩
  have HBE := Lib.hid hbel
  clear hbel
  by_cases hlt : k < N.ends.length
  ·obtain ⟨b, off, rfl, -, hrow⟩ := HX.out (by omega)
   obtain ⟨uk, huk, hurk⟩ := hrow k hlt
   obtain ⟨Rk, rck, rfl, -, hrmk, hrrk⟩ := hurk
   have ck : wr2.cell? ⟨b, off + k, none⟩ = some (.slice Rk (gl N.ends k).length rck) := ((Below.then_ HB0.out HBE.out).cell (p := ⟨b, off + k, none⟩) (au huk)).trans huk
   have HRR := Lib.hid hrrk
   have jv1 : (0 : Int) ≤ (k : Int) := by omega
   have jv2 : (k : Int) < (N.ends.length : Int) := by omega
   have hdk := HD.out k hlt
   obtain ⟨dk, hdk'⟩ : ∃ dk, dk = (gl N.ends k).length := ⟨_, rfl⟩
   rw [← hdk'] at ck hdk
   have HDK := Lib.hid hdk'
   have hzw := HBE.out.size
   have hmm := fun W => run_makeMap (P := Tryz.prog) 129 W
   have hM0 : OwnM (wr2.alloc (.map #[] 0)) 3 wr2.heap.size 0 (fun _ => none) := OwnM.made wr2 3
   obtain ⟨w1, hrun1, hg1, hput1⟩ := hM0.put sa zz (by decide) (keyOf_int_mk Tryz.underlying3 (a := (k : Int)) (Yx (by omega) (by omega))) (.bool true)
   have HM1 := Lib.hid (hput1 (iw N k 0) (I9 N k) (fun key' kl' _ hne => Ja hne))
   have HBW : Hid (Below wz.heap.size wz w1) := Lib.hid ((HBE.out.trans (((Below.refl wr2.heap.size wr2).alloc (Nat.le_refl _) (.map #[] 0)).mono hzw)).grown hg1 (by simp; omega) (fun q hq => by cases hq; exact hzw))
   clear huk hrrk hdk' hrow hM0 hput1 hg1
   go_wp2_with fail
   clear ck hmm hrun1
   go_loopw [21] (fun x21 wi => ∃ (j s : Nat), j ≤ dk ∧ s ≤ j + 1 ∧ x21 = .int .i64 j ∧ Below wz.heap.size wz wi ∧ OwnM wi 3 wr2.heap.size s (iw N k j))
    (fun x21 _ => dk - (intOf x21).toNat)
   case atStart => exact ⟨0, _, Nat.zero_le _, by simp, rfl, HBW.out, HM1.out⟩
   case round =>
    clear HBW HM1
    obtain ⟨j, s, hj, hsj, rfl, hbel, hM⟩ := hrel
    obtain ⟨wi2, rfl⟩ : ∃ wi2, wi2 = wr := ⟨_, rfl⟩
    have HBI := Lib.hid hbel
    have HM := Lib.hid hM
    clear hbel hM
    by_cases hjl : j < dk
    ·obtain ⟨q, hq⟩ : ∃ q, q = gp (gl N.ends k) j := ⟨_, rfl⟩
     obtain ⟨bq, oq, rfl, -, hqc⟩ := HRR.out (by rw [← HDK.out]; omega)
     obtain ⟨p1, p2⟩ := hqc j (by rw [← HDK.out]; exact hjl)
     have hnew := Na HS.out hlt (j := j) (by rw [← HDK.out]; exact hjl)
     have hat := M9 N k j
     have hfar : ∀ x, x ≠ .int .i64 (gp (gl N.ends k) j).1 → iw N k (j + 1) x = iw N k j x := fun x hx => Nb hx
     have hqb := HBD.out k j hlt (by rw [← HDK.out]; exact hjl)
     rw [← hq] at p1 p2 hnew hat hfar hqb
     obtain ⟨q1, q2⟩ := q
     have hB := Below.then_ HB0.out HBI.out
     have D1 : wi2.cell? ⟨bq, oq + j * 2, none⟩ = some (.int .i64 q1) := (hB.cell (p := ⟨bq, oq + j * 2, none⟩) (au p1)).trans p1
     have D2 : wi2.cell? ⟨bq, oq + j * 2 + 1, none⟩ = some (.int .i64 q2) := (hB.cell (p := ⟨bq, oq + j * 2 + 1, none⟩) (au p2)).trans p2
     have jw1 : (0 : Int) ≤ (j : Int) := by omega
     have jw2 : (j : Int) < (dk : Int) := by omega
     have hzb := HBI.out.size
     have kE := (Blk.new wi2 35 #[.int .i64 q1, .int .i64 q2]).cell
     have hMW : OwnM (wi2.alloc (.cells #[.int .i64 q1, .int .i64 q2] 35)) 3 wr2.heap.size s (iw N k j) := HM.out.below ((Below.refl _ _).alloc (Nat.le_refl _) _)
     have hkq := keyOf_int_mk (P := Tryz.prog) Tryz.underlying3 (a := q1) (Yx (by omega) (by omega))
     have hlook := hMW.look sa zz (M8 _) hkq
     rw [hnew] at hlook
     simp only [Option.getD_none] at hlook
     obtain ⟨w2, hrun2, hg2, hput2⟩ := hMW.put sa zz (by unfold maxLen; omega) hkq (.bool true)
     have hM2 := hput2 (iw N k (j + 1)) hat (fun key' kl' _ hne => hfar key' hne)
     have HM2 := Lib.hid hM2
     have hsz : (if (iw N k j (.int .i64 q1)).isSome = true then s else s + 1) ≤ j + 1 + 1 := by split <;> omega
     have HSZ := Lib.hid hsz
     have HB2 : Hid (Below wz.heap.size wz w2) := Lib.hid ((HBI.out.trans (((Below.refl wi2.heap.size wi2).alloc (Nat.le_refl _) (.cells #[.int .i64 q1, .int .i64 q2] 35)).mono hzb)).grown hg2 (by simp; omega) (fun q hq => by cases hq; exact hzw))
     clear hqc p1 p2 hB hq hput2 hM2 hsz hg2 hMW hkq hnew hat hfar
     go_wp2_with fail
     go_roundw
     case rel => exact ⟨j + 1, _, by omega, HSZ.out, by go_num, HB2.out, HM2.out⟩
     case measure => simp [intOf]; omega
    ·obtain rfl : j = dk := by omega
     go_wp2_with fail
     go_roundw
     case rel => exact ⟨k + 1, by omega, by go_num, HBI.out⟩
     case measure => simp [intOf]; omega
  ·obtain rfl : k = N.ends.length := by omega
   go_wp2_with fail
   go_ret
   exact ⟨rfl, HB0.out.trans (HBE.out.mono (by omega))⟩
end Go.Proofs.YtdiiggpohcjppaaGreat
