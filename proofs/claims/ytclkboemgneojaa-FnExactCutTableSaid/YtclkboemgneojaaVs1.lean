/- The reference's reader of view texts: a digit, a byte. -/
import Derived.Test.YtclkboemgneojaaVi
import Derived.Test.YtclkboemgneojaaSp1
namespace Go.Proofs.Ytclkboemgneojaa
open Go.RowKit

/-- the reference's reader: at a place, still well or not -/
def MovS (w w' : World) (gr : Nat) (s : ByteArray) (a : Nat) (ok : Bool) : Prop := Blk w' gr 159 #[.string s, .int .i64 (a : Nat), .bool ok] ∧ w.grownBy w' (some gr)
theorem MovS.trans {w w1 w2 : World} {gr : Nat} {s : ByteArray} {a b : Nat} {o o' : Bool} (h : MovS w w1 gr s a o) (k : MovS w1 w2 gr s b o') : MovS w w2 gr s b o' := ⟨k.1, h.2.trans k.2⟩
theorem MovS.same {w : World} {gr : Nat} {s : ByteArray} {a : Nat} {o : Bool} (h : Blk w gr 159 #[.string s, .int .i64 (a : Nat), .bool o]) (n : Nat) : MovS w (w.drewN n) gr s a o := ⟨h, grown_drewN (World.grownBy.refl _ _) n⟩
theorem MovS.put1 {w : World} {gr : Nat} {s : ByteArray} {a : Nat} {o : Bool} (h : Blk w gr 159 #[.string s, .int .i64 (a : Nat), .bool o]) (n : Nat) : MovS w ((w.setCell ⟨gr, 1, none⟩ (.int .i64 ((a : Int) + 1))).drewN n) gr s (a + 1) o :=
  have hg : w.grownBy (w.setCell ⟨gr, 1, none⟩ (.int .i64 ((a : Int) + 1))) (some gr) := ⟨rfl, rfl, rfl, by simp, fun k _ hk => Below.heap_setCell w _ _ k (fun e => hk (by rw [e]))⟩
  ⟨h.put 1 _, grown_drewN hg n⟩
theorem MovS.put2 {w : World} {gr : Nat} {s : ByteArray} {a : Nat} {o : Bool} (h : Blk w gr 159 #[.string s, .int .i64 (a : Nat), .bool o]) (x : Bool) (n : Nat) : MovS w ((w.setCell ⟨gr, 2, none⟩ (.bool x)).drewN n) gr s a x :=
  have hg : w.grownBy (w.setCell ⟨gr, 2, none⟩ (.bool x)) (some gr) := ⟨rfl, rfl, rfl, by simp, fun k _ hk => Below.heap_setCell w _ _ k (fun e => hk (by rw [e]))⟩
  ⟨h.put 2 _, grown_drewN hg n⟩

set_option maxRecDepth 100000 in
set_option maxHeartbeats 1000000 in
theorem spSign_yes (z : Int) (b : UInt8) (hz : z = (b.toNat : Nat)) (w : World) (gr : Nat) (s : ByteArray) (a : Nat) (o : Bool) (r : List UInt8) (h : Blk w gr 159 #[.string s, .int .i64 (a : Nat), .bool o]) (hs : s.size ≤ 4000) (hb : sgn b (from_ s a) = some r) :
    Calls Try.prog 173 #[.pointer (some ⟨gr, 0, none⟩), .int .u8 z] w fun e w' => e = .returned (.tuple #[]) ∧ MovS w w' gr s (a + 1) o := by
  subst hz
  obtain ⟨ha, rfl, hr⟩ := sgn_from hb
  have hc := h.cell
  have hf := h.free
  have e1 : ((a : Int) == (s.size : Int)) = false := by simp; omega
  have e2 : ((s[a].toNat : Int) != (s[a].toNat : Int)) = false := by simp
  have i1 : (0 : Int) ≤ (a : Int) := by omega
  have i2 : (a : Int) < (s.size : Int) := by omega
  have H := Lib.hid h
  clear h hb hr
  go_enter Try.func173, Try.ntmps173
  go_wp2
  go_quiet (fail)
  go_wp2
  go_end0
  exact ⟨rfl, MovS.put1 H.out _⟩
set_option maxRecDepth 100000 in
set_option maxHeartbeats 1000000 in
theorem spSign_no (z : Int) (b : UInt8) (hz : z = (b.toNat : Nat)) (w : World) (gr : Nat) (s : ByteArray) (a : Nat) (o : Bool) (h : Blk w gr 159 #[.string s, .int .i64 (a : Nat), .bool o]) (ha : a ≤ s.size) (hb : sgn b (from_ s a) = none) :
    Calls Try.prog 173 #[.pointer (some ⟨gr, 0, none⟩), .int .u8 z] w fun e w' => e = .returned (.tuple #[]) ∧ MovS w w' gr s a false := by
  subst hz
  have hc := h.cell
  have hf := h.free
  have H := Lib.hid h
  by_cases hl : a < s.size
  · have hne := sgn_from_none hb hl
    have e1 : ((a : Int) == (s.size : Int)) = false := by simp; omega
    have e2 : ((s[a].toNat : Int) != (b.toNat : Int)) = true := by
      simp only [bne_iff_ne, ne_eq]
      intro e
      exact hne (UInt8.toNat_inj.1 (by omega))
    have i1 : (0 : Int) ≤ (a : Int) := by omega
    have i2 : (a : Int) < (s.size : Int) := by omega
    clear h hb hne
    go_enter Try.func173, Try.ntmps173
    go_wp2
    go_quiet (fail)
    go_wp2
    (try simp only [Exit.inBlock, Exit.then])
    refine bodyPost_ret (results_none rfl _ _ _) rfl ?_
    exact ⟨rfl, MovS.put2 H.out false _⟩
  · obtain rfl : a = s.size := by omega
    have e1 : ((s.size : Int) == (s.size : Int)) = true := by simp
    clear h hb hl
    go_enter Try.func173, Try.ntmps173
    go_wp2
    go_quiet (fail)
    go_wp2
    (try simp only [Exit.inBlock, Exit.then])
    refine bodyPost_ret (results_none rfl _ _ _) rfl ?_
    exact ⟨rfl, MovS.put2 H.out false _⟩

set_option maxRecDepth 100000 in
set_option maxHeartbeats 1000000 in
theorem spDigit_yes (w : World) (gr : Nat) (s : ByteArray) (a m d : Nat) (o : Bool) (r : List UInt8) (h : Blk w gr 159 #[.string s, .int .i64 (a : Nat), .bool o]) (hs : s.size ≤ 4000) (hb : dgt m (from_ s a) = some (d, r)) :
    Calls Try.prog 172 #[.pointer (some ⟨gr, 0, none⟩), .int .i64 (m : Nat)] w fun e w' => e = .returned (.int .i64 (d : Nat)) ∧ MovS w w' gr s (a + 1) o := by
  obtain ⟨ha, hd, hdm, hr⟩ := dgt_from hb
  have hc := h.cell
  have hf := h.free
  have e1 : ((a : Int) == (s.size : Int)) = false := by simp; omega
  have i1 : (0 : Int) ≤ (a : Int) := by omega
  have i2 : (a : Int) < (s.size : Int) := by omega
  have hb1 := UInt8.toNat_lt s[a]
  have e2 : ¬ (s[a].toNat : Int) < 48 := by omega
  have e3 : decide (s[a].toNat < 48) = false := by simp; omega
  have hw0 : IntKind.u8.wrap ((s[a].toNat : Int) - 48) = (d : Int) := by
    rw [show (s[a].toNat : Int) - 48 = (d : Int) by omega]
    simp [IntKind.wrap, IntKind.bits, IntKind.signed]; omega
  have hw1 : IntKind.i64.wrap (d : Int) = (d : Int) := IntWalk.i64_in _ (by omega)
  have e4 : ¬ (m : Int) < (d : Int) := by omega
  have e5 : decide (m < d) = false := by simp; omega
  have H := Lib.hid h
  clear h hb hr hd
  go_enter Try.func172, Try.ntmps172
  go_wp2
  go_quiet (fail)
  go_wp2
  go_quiet (fail)
  go_wp2
  go_ret
  exact ⟨by first | rfl | simp [hw0, hw1], (MovS.same H.out _).trans (MovS.put1 (w := World.drewN w _) H.out _)⟩

set_option maxRecDepth 100000 in
set_option maxHeartbeats 1000000 in
theorem spDigit_no (w : World) (gr : Nat) (s : ByteArray) (a m : Nat) (o : Bool) (h : Blk w gr 159 #[.string s, .int .i64 (a : Nat), .bool o]) (ha : a ≤ s.size) (hb : dgt m (from_ s a) = none) :
    Calls Try.prog 172 #[.pointer (some ⟨gr, 0, none⟩), .int .i64 (m : Nat)] w fun e w' => e = .returned (.int .i64 0) ∧ MovS w w' gr s a false := by
  have hc := h.cell
  have hf := h.free
  have H := Lib.hid h
  by_cases hl : a < s.size
  · have hne := dgt_from_none hb hl
    have e1 : ((a : Int) == (s.size : Int)) = false := by simp; omega
    have i1 : (0 : Int) ≤ (a : Int) := by omega
    have i2 : (a : Int) < (s.size : Int) := by omega
    have hb1 := UInt8.toNat_lt s[a]
    by_cases h48 : s[a].toNat < 48
    · have e2 : (s[a].toNat : Int) < 48 := by omega
      have e3 : decide (s[a].toNat < 48) = true := by simp; omega
      clear h hb hne hb1
      go_enter Try.func172, Try.ntmps172
      go_wp2
      go_quiet (fail)
      go_wp2
      go_ret
      exact ⟨rfl, MovS.put2 H.out false _⟩
    · obtain ⟨d, hd⟩ : ∃ d, s[a].toNat = 48 + d := ⟨s[a].toNat - 48, by omega⟩
      have e2 : ¬ (s[a].toNat : Int) < 48 := by omega
      have e3 : decide (s[a].toNat < 48) = false := by simp; omega
      have hw0 : IntKind.u8.wrap ((s[a].toNat : Int) - 48) = (d : Int) := by
        rw [show (s[a].toNat : Int) - 48 = (d : Int) by omega]
        simp [IntKind.wrap, IntKind.bits, IntKind.signed]; omega
      have hw1 : IntKind.i64.wrap (d : Int) = (d : Int) := IntWalk.i64_in _ (by omega)
      have e4 : (m : Int) < (d : Int) := by omega
      have e5 : decide (m < d) = true := by simp; omega
      clear h hb hne hb1 hd h48
      go_enter Try.func172, Try.ntmps172
      go_wp2
      go_quiet (fail)
      go_wp2
      go_ret
      exact ⟨rfl, MovS.put2 H.out false _⟩
  · obtain rfl : a = s.size := by omega
    have e1 : ((s.size : Int) == (s.size : Int)) = true := by simp
    clear h hb hl
    go_enter Try.func172, Try.ntmps172
    go_wp2
    go_quiet (fail)
    go_wp2
    go_ret
    exact ⟨rfl, MovS.put2 H.out false _⟩
end Go.Proofs.Ytclkboemgneojaa
