/- Parts of the proof, joined: Vi, Vs1. -/
import Derived.Test.YtljjbhihllnnaaaGreatCJn4
import Derived.Test.YtljjbhihllnnaaaGreatCJn3
import Derived.Test.YtljjbhihllnnaaaGreatProg
import Derived.StillTailTactics
namespace Go.Proofs.YtljjbhihllnnaaaGreat
open Go.RowKit

/-- the reader stands in its block at a place of a text; nothing else that was there has turned -/
def Moved (t : TypeId) (w w' : World) (gr : Nat) (s : ByteArray) (a : Nat) : Prop := Blk w' gr t #[.string s, .int .i64 (a : Nat)] ∧ w.grownBy w' (some gr)
theorem Moved.size {t : TypeId} {w w' : World} {gr : Nat} {s : ByteArray} {a : Nat} (h : Moved t w w' gr s a) : w.heap.size ≤ w'.heap.size := h.2.size

theorem Moved.put {t : TypeId} {w : World} {gr : Nat} {s : ByteArray} {a : Nat} (h : Blk w gr t #[.string s, .int .i64 (a : Nat)]) (n : Nat) : Moved t w ((w.setCell ⟨gr, 1, none⟩ (.int .i64 ((a : Int) + 1))).drewN n) gr s (a + 1) :=
  have hg : w.grownBy (w.setCell ⟨gr, 1, none⟩ (.int .i64 ((a : Int) + 1))) (some gr) := ⟨rfl, rfl, rfl, by simp, fun k _ hk => Below.heap_setCell w _ _ k (fun e => hk (by rw [e]))⟩
  ⟨h.put 1 _, grown_drewN hg n⟩
theorem Moved.same {t : TypeId} {w : World} {gr : Nat} {s : ByteArray} {a : Nat} (h : Blk w gr t #[.string s, .int .i64 (a : Nat)]) (n : Nat) : Moved t w (w.drewN n) gr s a :=
  ⟨h, grown_drewN (World.grownBy.refl _ _) n⟩

theorem Moved.trans {t : TypeId} {w w1 w2 : World} {gr : Nat} {s : ByteArray} {a b : Nat} (h : Moved t w w1 gr s a) (k : Moved t w1 w2 gr s b) : Moved t w w2 gr s b := ⟨k.1, h.2.trans k.2⟩

theorem within_b (n lo hi : Int) (b : Bool) (w : World) (h : inB n lo hi = b) :
    Calls Tryz.prog 61 #[.int .i64 n, .int .i64 lo, .int .i64 hi] w (RetQ w (.bool b)) := by subst h; exact within_any n lo hi w

theorem sgn_from {b : UInt8} {s : ByteArray} {a : Nat} {r : List UInt8} (h : sgn b (from_ s a) = some r) : ∃ ha : a < s.size, s[a] = b ∧ r = from_ s (a + 1) := by
  by_cases ha : a < s.size
  · rw [from_lt ha] at h
    simp only [sgn] at h
    split at h
    · simp at h; exact ⟨ha, by assumption, h.symm⟩
    · cases h
  · rw [from_end (by omega)] at h; cases h
theorem sgn_from_none {b : UInt8} {s : ByteArray} {a : Nat} (h : sgn b (from_ s a) = none) (ha : a < s.size) : s[a] ≠ b := by
  rw [from_lt ha] at h
  simp only [sgn] at h
  split at h
  · cases h
  · assumption
theorem dgt_from {m : Nat} {s : ByteArray} {a d : Nat} {r : List UInt8} (h : dgt m (from_ s a) = some (d, r)) : ∃ ha : a < s.size, s[a].toNat = 48 + d ∧ d ≤ m ∧ r = from_ s (a + 1) := by
  by_cases ha : a < s.size
  · rw [from_lt ha] at h
    simp only [dgt] at h
    split at h
    · simp at h; obtain ⟨rfl, h2⟩ := h; exact ⟨ha, by omega, by omega, h2.symm⟩
    · cases h
  · rw [from_end (by omega)] at h; cases h
theorem dgt_from_none {m : Nat} {s : ByteArray} {a : Nat} (h : dgt m (from_ s a) = none) (ha : a < s.size) : s[a].toNat < 48 ∨ 48 + m < s[a].toNat := by
  rw [from_lt ha] at h
  simp only [dgt] at h
  split at h
  · cases h
  · omega

set_option maxRecDepth 100000 in
set_option maxHeartbeats 1000000 in
theorem rdNext_yes (w : World) (gr : Nat) (s : ByteArray) (a : Nat) (b : UInt8) (r : List UInt8) (h : Blk w gr 157 #[.string s, .int .i64 (a : Nat)]) (hs : s.size ≤ 4000) (hb : sgn b (from_ s a) = some r) :
    Calls Tryz.prog 163 #[.pointer (some ⟨gr, 0, none⟩), .int .u8 (b.toNat : Nat)] w fun e w' => e = .returned (.bool true) ∧ Moved 157 w w' gr s (a + 1) := by
  obtain ⟨ha, rfl, hr⟩ := sgn_from hb
  have hc := h.cell
  have hf := h.free
  have e1 : ((a : Int) == (s.size : Int)) = false := by simp; omega
  have e2 : ((s[a].toNat : Int) != (s[a].toNat : Int)) = false := by simp
  have i1 : (0 : Int) ≤ (a : Int) := by omega
  have i2 : (a : Int) < (s.size : Int) := by omega
  have H := Lib.hid h
  clear h hb hr
  go_enter Tryz.func163, Tryz.ntmps163
  go_wp2
  go_quiet (fail)
  go_wp2
  go_ret
  exact ⟨rfl, Moved.put H.out _⟩

set_option maxRecDepth 100000 in
set_option maxHeartbeats 1000000 in
theorem rdNext_no (w : World) (gr : Nat) (s : ByteArray) (a : Nat) (b : UInt8) (h : Blk w gr 157 #[.string s, .int .i64 (a : Nat)]) (ha : a ≤ s.size) (hb : sgn b (from_ s a) = none) :
    Calls Tryz.prog 163 #[.pointer (some ⟨gr, 0, none⟩), .int .u8 (b.toNat : Nat)] w fun e w' => e = .returned (.bool false) ∧ Moved 157 w w' gr s a := by
  have hc := h.cell
  have H := Lib.hid h
  by_cases hl : a < s.size
  · have hne := sgn_from_none hb hl
    have e1 : ((a : Int) == (s.size : Int)) = false := by simp; omega
    have e2 : ((s[a].toNat : Int) != (b.toNat : Int)) = true := by
      simp only [bne_iff_ne, ne_eq]
      intro e
      exact hne (UInt8.toNat_inj.1 (by omega))
    have i1 : (0 : Int) ≤ (a : Int) := by omega
    have i2 : (a : Int) < (s.size : Int) := by omega
    clear h hb hne
    go_enter Tryz.func163, Tryz.ntmps163
    go_wp2
    go_quiet (fail)
    go_wp2
    go_ret
    exact ⟨rfl, Moved.same H.out _⟩
  · obtain rfl : a = s.size := by omega
    have e1 : ((s.size : Int) == (s.size : Int)) = true := by simp
    clear h hb hl
    go_enter Tryz.func163, Tryz.ntmps163
    go_wp2
    go_quiet (fail)
    go_wp2
    go_ret
    exact ⟨rfl, Moved.same H.out _⟩

set_option maxRecDepth 100000 in
set_option maxHeartbeats 1000000 in
theorem rdDigit_yes (w : World) (gr : Nat) (s : ByteArray) (a m d : Nat) (r : List UInt8) (h : Blk w gr 157 #[.string s, .int .i64 (a : Nat)]) (hs : s.size ≤ 4000) (hb : dgt m (from_ s a) = some (d, r)) :
    Calls Tryz.prog 162 #[.pointer (some ⟨gr, 0, none⟩), .int .i64 (m : Nat)] w fun e w' => e = .returned (.int .i64 (d : Nat)) ∧ Moved 157 w w' gr s (a + 1) := by
  obtain ⟨ha, hd, hdm, hr⟩ := dgt_from hb
  have hc := h.cell
  have hf := h.free
  have e1 : ((a : Int) == (s.size : Int)) = false := by simp; omega
  have i1 : (0 : Int) ≤ (a : Int) := by omega
  have i2 : (a : Int) < (s.size : Int) := by omega
  have hb1 := UInt8.toNat_lt s[a]
  have hw1 : wrap64 (wrap64 (s[a].toNat : Int) - 48) = (d : Int) := by
    rw [IntWalk.wrap64_in (s[a].toNat : Int) ⟨by omega, by omega⟩, IntWalk.wrap64_in _ ⟨by omega, by omega⟩]; omega
  have HW := Lib.hid hw1
  have CW := Lib.hid (fun W => within_b (wrap64 (wrap64 (s[a].toNat : Int) - 48)) 0 (m : Int) true W (by rw [hw1]; exact inB_iff.2 (by omega)))
  clear hw1
  have H := Lib.hid h
  clear h hb hr hd hb1
  go_enter Tryz.func162, Tryz.ntmps162
  go_wp2
  go_quiet ((go_at_call 61; exact quietQ (CW.out _)))
  go_wp2
  go_quiet (fail)
  go_wp2
  go_ret
  exact ⟨by rw [← HW.out]; rfl, (Moved.same H.out _).trans (Moved.put (w := World.drewN w _) H.out _)⟩

set_option maxRecDepth 100000 in
set_option maxHeartbeats 1000000 in
theorem rdDigit_no (w : World) (gr : Nat) (s : ByteArray) (a m : Nat) (h : Blk w gr 157 #[.string s, .int .i64 (a : Nat)]) (ha : a ≤ s.size) (hb : dgt m (from_ s a) = none) :
    Calls Tryz.prog 162 #[.pointer (some ⟨gr, 0, none⟩), .int .i64 (m : Nat)] w fun e w' => e = .returned (.int .i64 (-1)) ∧ Moved 157 w w' gr s a := by
  have hc := h.cell
  have H := Lib.hid h
  by_cases hl : a < s.size
  · have hne := dgt_from_none hb hl
    have e1 : ((a : Int) == (s.size : Int)) = false := by simp; omega
    have i1 : (0 : Int) ≤ (a : Int) := by omega
    have i2 : (a : Int) < (s.size : Int) := by omega
    have hb1 := UInt8.toNat_lt s[a]
    have hw1 : wrap64 (wrap64 (s[a].toNat : Int) - 48) = (s[a].toNat : Int) - 48 := by
      rw [IntWalk.wrap64_in (s[a].toNat : Int) ⟨by omega, by omega⟩, IntWalk.wrap64_in _ ⟨by omega, by omega⟩]
    have CW := Lib.hid (fun W => within_b (wrap64 (wrap64 (s[a].toNat : Int) - 48)) 0 (m : Int) false W (by rw [hw1]; exact inB_false.2 (by omega)))
    clear h hb hne hw1 hb1
    go_enter Tryz.func162, Tryz.ntmps162
    go_wp2
    go_quiet ((go_at_call 61; exact quietQ (CW.out _)))
    go_wp2
    go_ret
    exact ⟨rfl, Moved.same H.out _⟩
  · obtain rfl : a = s.size := by omega
    have e1 : ((s.size : Int) == (s.size : Int)) = true := by simp
    clear h hb hl
    go_enter Tryz.func162, Tryz.ntmps162
    go_wp2
    go_quiet (fail)
    go_wp2
    go_ret
    exact ⟨rfl, Moved.same H.out _⟩

/-- the same two at a byte as the walk spells it -/
theorem rdNext_y (z : Int) (b : UInt8) (hz : z = (b.toNat : Nat)) (w : World) (gr : Nat) (s : ByteArray) (a : Nat) (r : List UInt8) (h : Blk w gr 157 #[.string s, .int .i64 (a : Nat)]) (hs : s.size ≤ 4000) (hb : sgn b (from_ s a) = some r) :
    Calls Tryz.prog 163 #[.pointer (some ⟨gr, 0, none⟩), .int .u8 z] w fun e w' => e = .returned (.bool true) ∧ Moved 157 w w' gr s (a + 1) := by subst hz; exact rdNext_yes w gr s a b r h hs hb
theorem rdNext_n (z : Int) (b : UInt8) (hz : z = (b.toNat : Nat)) (w : World) (gr : Nat) (s : ByteArray) (a : Nat) (h : Blk w gr 157 #[.string s, .int .i64 (a : Nat)]) (ha : a ≤ s.size) (hb : sgn b (from_ s a) = none) :
    Calls Tryz.prog 163 #[.pointer (some ⟨gr, 0, none⟩), .int .u8 z] w fun e w' => e = .returned (.bool false) ∧ Moved 157 w w' gr s a := by subst hz; exact rdNext_no w gr s a b h ha hb
theorem Moved.alloc {t : TypeId} {w w' : World} {gr : Nat} {s : ByteArray} {a : Nat} (h : Moved t w w' gr s a) (o : Obj) : Moved t w (w'.alloc o) gr s a :=
  ⟨h.1.alloc o, ⟨h.2.os, h.2.tape, h.2.output, Nat.le_trans h.2.size (by simp), fun k hk hne => (Below.heap_alloc w' o k (Nat.lt_of_lt_of_le hk h.2.size)).trans (h.2.block k hk hne)⟩⟩
end Go.Proofs.YtljjbhihllnnaaaGreat

namespace Go.Proofs.YtljjbhihllnnaaaGreat
open Go.RowKit

/-- the reference's reader: at a place, still well or not -/
def MovS (w w' : World) (gr : Nat) (s : ByteArray) (a : Nat) (ok : Bool) : Prop := Blk w' gr 164 #[.string s, .int .i64 (a : Nat), .bool ok] ∧ w.grownBy w' (some gr)
theorem MovS.trans {w w1 w2 : World} {gr : Nat} {s : ByteArray} {a b : Nat} {o o' : Bool} (h : MovS w w1 gr s a o) (k : MovS w1 w2 gr s b o') : MovS w w2 gr s b o' := ⟨k.1, h.2.trans k.2⟩
theorem MovS.same {w : World} {gr : Nat} {s : ByteArray} {a : Nat} {o : Bool} (h : Blk w gr 164 #[.string s, .int .i64 (a : Nat), .bool o]) (n : Nat) : MovS w (w.drewN n) gr s a o := ⟨h, grown_drewN (World.grownBy.refl _ _) n⟩
theorem MovS.put1 {w : World} {gr : Nat} {s : ByteArray} {a : Nat} {o : Bool} (h : Blk w gr 164 #[.string s, .int .i64 (a : Nat), .bool o]) (n : Nat) : MovS w ((w.setCell ⟨gr, 1, none⟩ (.int .i64 ((a : Int) + 1))).drewN n) gr s (a + 1) o :=
  have hg : w.grownBy (w.setCell ⟨gr, 1, none⟩ (.int .i64 ((a : Int) + 1))) (some gr) := ⟨rfl, rfl, rfl, by simp, fun k _ hk => Below.heap_setCell w _ _ k (fun e => hk (by rw [e]))⟩
  ⟨h.put 1 _, grown_drewN hg n⟩
theorem MovS.put2 {w : World} {gr : Nat} {s : ByteArray} {a : Nat} {o : Bool} (h : Blk w gr 164 #[.string s, .int .i64 (a : Nat), .bool o]) (x : Bool) (n : Nat) : MovS w ((w.setCell ⟨gr, 2, none⟩ (.bool x)).drewN n) gr s a x :=
  have hg : w.grownBy (w.setCell ⟨gr, 2, none⟩ (.bool x)) (some gr) := ⟨rfl, rfl, rfl, by simp, fun k _ hk => Below.heap_setCell w _ _ k (fun e => hk (by rw [e]))⟩
  ⟨h.put 2 _, grown_drewN hg n⟩

set_option maxRecDepth 100000 in
set_option maxHeartbeats 1000000 in
theorem spSign_yes (z : Int) (b : UInt8) (hz : z = (b.toNat : Nat)) (w : World) (gr : Nat) (s : ByteArray) (a : Nat) (o : Bool) (r : List UInt8) (h : Blk w gr 164 #[.string s, .int .i64 (a : Nat), .bool o]) (hs : s.size ≤ 4000) (hb : sgn b (from_ s a) = some r) :
    Calls Tryz.prog 169 #[.pointer (some ⟨gr, 0, none⟩), .int .u8 z] w fun e w' => e = .returned (.tuple #[]) ∧ MovS w w' gr s (a + 1) o := by
  subst hz
  obtain ⟨ha, rfl, hr⟩ := sgn_from hb
  have hc := h.cell
  have hf := h.free
  have e1 : ((a : Int) == (s.size : Int)) = false := by simp; omega
  have e2 : ((s[a].toNat : Int) != (s[a].toNat : Int)) = false := by simp
  have i1 : (0 : Int) ≤ (a : Int) := by omega
  have i2 : (a : Int) < (s.size : Int) := by omega
  have H := Lib.hid h
  clear h hb hr
  go_enter Tryz.func169, Tryz.ntmps169
  go_wp2
  go_quiet (fail)
  go_wp2
  go_end0
  exact ⟨rfl, MovS.put1 H.out _⟩
set_option maxRecDepth 100000 in
set_option maxHeartbeats 1000000 in
theorem spSign_no (z : Int) (b : UInt8) (hz : z = (b.toNat : Nat)) (w : World) (gr : Nat) (s : ByteArray) (a : Nat) (o : Bool) (h : Blk w gr 164 #[.string s, .int .i64 (a : Nat), .bool o]) (ha : a ≤ s.size) (hb : sgn b (from_ s a) = none) :
    Calls Tryz.prog 169 #[.pointer (some ⟨gr, 0, none⟩), .int .u8 z] w fun e w' => e = .returned (.tuple #[]) ∧ MovS w w' gr s a false := by
  subst hz
  have hc := h.cell
  have hf := h.free
  have H := Lib.hid h
  by_cases hl : a < s.size
  · have hne := sgn_from_none hb hl
    have e1 : ((a : Int) == (s.size : Int)) = false := by simp; omega
    have e2 : ((s[a].toNat : Int) != (b.toNat : Int)) = true := by
      simp only [bne_iff_ne, ne_eq]
      intro e
      exact hne (UInt8.toNat_inj.1 (by omega))
    have i1 : (0 : Int) ≤ (a : Int) := by omega
    have i2 : (a : Int) < (s.size : Int) := by omega
    clear h hb hne
    go_enter Tryz.func169, Tryz.ntmps169
    go_wp2
    go_quiet (fail)
    go_wp2
    (try simp only [Exit.inBlock, Exit.then])
    refine bodyPost_ret (results_none rfl _ _ _) rfl ?_
    exact ⟨rfl, MovS.put2 H.out false _⟩
  · obtain rfl : a = s.size := by omega
    have e1 : ((s.size : Int) == (s.size : Int)) = true := by simp
    clear h hb hl
    go_enter Tryz.func169, Tryz.ntmps169
    go_wp2
    go_quiet (fail)
    go_wp2
    (try simp only [Exit.inBlock, Exit.then])
    refine bodyPost_ret (results_none rfl _ _ _) rfl ?_
    exact ⟨rfl, MovS.put2 H.out false _⟩

set_option maxRecDepth 100000 in
set_option maxHeartbeats 1000000 in
theorem spDigit_yes (w : World) (gr : Nat) (s : ByteArray) (a m d : Nat) (o : Bool) (r : List UInt8) (h : Blk w gr 164 #[.string s, .int .i64 (a : Nat), .bool o]) (hs : s.size ≤ 4000) (hb : dgt m (from_ s a) = some (d, r)) :
    Calls Tryz.prog 168 #[.pointer (some ⟨gr, 0, none⟩), .int .i64 (m : Nat)] w fun e w' => e = .returned (.int .i64 (d : Nat)) ∧ MovS w w' gr s (a + 1) o := by
  obtain ⟨ha, hd, hdm, hr⟩ := dgt_from hb
  have hc := h.cell
  have hf := h.free
  have e1 : ((a : Int) == (s.size : Int)) = false := by simp; omega
  have i1 : (0 : Int) ≤ (a : Int) := by omega
  have i2 : (a : Int) < (s.size : Int) := by omega
  have hb1 := UInt8.toNat_lt s[a]
  have e2 : ¬ (s[a].toNat : Int) < 48 := by omega
  have e3 : decide (s[a].toNat < 48) = false := by simp; omega
  have hw0 : IntKind.u8.wrap ((s[a].toNat : Int) - 48) = (d : Int) := by
    rw [show (s[a].toNat : Int) - 48 = (d : Int) by omega]
    simp [IntKind.wrap, IntKind.bits, IntKind.signed]; omega
  have hw1 : IntKind.i64.wrap (d : Int) = (d : Int) := IntWalk.i64_in _ (by omega)
  have e4 : ¬ (m : Int) < (d : Int) := by omega
  have e5 : decide (m < d) = false := by simp; omega
  have H := Lib.hid h
  clear h hb hr hd
  go_enter Tryz.func168, Tryz.ntmps168
  go_wp2
  go_quiet (fail)
  go_wp2
  go_quiet (fail)
  go_wp2
  go_ret
  exact ⟨by first | rfl | simp [hw0, hw1], (MovS.same H.out _).trans (MovS.put1 (w := World.drewN w _) H.out _)⟩

set_option maxRecDepth 100000 in
set_option maxHeartbeats 1000000 in
theorem spDigit_no (w : World) (gr : Nat) (s : ByteArray) (a m : Nat) (o : Bool) (h : Blk w gr 164 #[.string s, .int .i64 (a : Nat), .bool o]) (ha : a ≤ s.size) (hb : dgt m (from_ s a) = none) :
    Calls Tryz.prog 168 #[.pointer (some ⟨gr, 0, none⟩), .int .i64 (m : Nat)] w fun e w' => e = .returned (.int .i64 0) ∧ MovS w w' gr s a false := by
  have hc := h.cell
  have hf := h.free
  have H := Lib.hid h
  by_cases hl : a < s.size
  · have hne := dgt_from_none hb hl
    have e1 : ((a : Int) == (s.size : Int)) = false := by simp; omega
    have i1 : (0 : Int) ≤ (a : Int) := by omega
    have i2 : (a : Int) < (s.size : Int) := by omega
    have hb1 := UInt8.toNat_lt s[a]
    by_cases h48 : s[a].toNat < 48
    · have e2 : (s[a].toNat : Int) < 48 := by omega
      have e3 : decide (s[a].toNat < 48) = true := by simp; omega
      clear h hb hne hb1
      go_enter Tryz.func168, Tryz.ntmps168
      go_wp2
      go_quiet (fail)
      go_wp2
      go_ret
      exact ⟨rfl, MovS.put2 H.out false _⟩
    · obtain ⟨d, hd⟩ : ∃ d, s[a].toNat = 48 + d := ⟨s[a].toNat - 48, by omega⟩
      have e2 : ¬ (s[a].toNat : Int) < 48 := by omega
      have e3 : decide (s[a].toNat < 48) = false := by simp; omega
      have hw0 : IntKind.u8.wrap ((s[a].toNat : Int) - 48) = (d : Int) := by
        rw [show (s[a].toNat : Int) - 48 = (d : Int) by omega]
        simp [IntKind.wrap, IntKind.bits, IntKind.signed]; omega
      have hw1 : IntKind.i64.wrap (d : Int) = (d : Int) := IntWalk.i64_in _ (by omega)
      have e4 : (m : Int) < (d : Int) := by omega
      have e5 : decide (m < d) = true := by simp; omega
      clear h hb hne hb1 hd h48
      go_enter Tryz.func168, Tryz.ntmps168
      go_wp2
      go_quiet (fail)
      go_wp2
      go_ret
      exact ⟨rfl, MovS.put2 H.out false _⟩
  · obtain rfl : a = s.size := by omega
    have e1 : ((s.size : Int) == (s.size : Int)) = true := by simp
    clear h hb hl
    go_enter Tryz.func168, Tryz.ntmps168
    go_wp2
    go_quiet (fail)
    go_wp2
    go_ret
    exact ⟨rfl, MovS.put2 H.out false _⟩
end Go.Proofs.YtljjbhihllnnaaaGreat
