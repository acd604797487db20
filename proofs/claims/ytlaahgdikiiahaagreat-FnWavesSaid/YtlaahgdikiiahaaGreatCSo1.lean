/- The library's exchange of ranges and rotation, at slices of int that the call owns. -/
import Derived.Test.YtlaahgdikiiahaaGreatCJn14
import Derived.Test.YtlaahgdikiiahaaGreatCJn10
import Derived.RegionTactic
import Derived.ChangeAlike
set_option linter.unusedSimpArgs false
set_option linter.unusedVariables false
namespace Go.Proofs.YtlaahgdikiiahaaGreat
open Go.RowKit
def RetTurn (w : World) (B g n cap : Nat) (P : List Int → Prop) (e : Ending) (w' : World) : Prop :=
 ∃ d', e = .returned (.tuple #[]) ∧ OwnI w' B (.slice (some ⟨g, 0, none⟩) n cap) d' ∧ P d' ∧ w.grownBy w' (some g)
set_option maxRecDepth 100000 in
set_option maxHeartbeats 1000000 in
theorem swapRange_any (B g n cap : Nat) (d : List Int) (a b k : Nat) (fv : Value) (w : World) (h : OwnI w B (.slice (some ⟨g, 0, none⟩) n cap) d) (hl : n = d.length) (hn : n ≤ 1048576) (hab : a + k ≤ b) (hb : b + k ≤ n) :
 Calls Tryz.prog 194 #[.slice (some ⟨g, 0, none⟩) n cap, .int .i64 a, .int .i64 b, .int .i64 k, fv] w (RetTurn w B g n cap (fun d' => d' = swapR d a b k)) := by
 have HO := Lib.hid h
 have HL := Lib.hid hl
 clear h hl
 go_enter Tryz.func194, Tryz.ntmps194
 go_wp2
 go_loopw [10] (fun i wr => ∃ j : Nat, j ≤ k ∧ i = .int .i64 j ∧ OwnI wr B (.slice (some ⟨g, 0, none⟩) n cap) (swapR d a b j) ∧ w.grownBy wr (some g)) (fun i _ => k - (intOf i).toNat)
 case atStart => exact ⟨0, Nat.zero_le _, rfl, HO.out, World.grownBy.refl _ _⟩
 case round =>
  obtain ⟨j, hj, rfl, hown, hgr⟩ := hrel
  by_cases hlt : j < k
  ·have hlen : n = (swapR d a b j).length := by rw [swapR_length]; exact HL.out
   obtain ⟨c1, f1⟩ := hown.at_ hlen (j := a + j) (by omega)
   obtain ⟨c2, f2⟩ := hown.at_ hlen (j := b + j) (by omega)
   have HO1 : Hid (OwnI ((wr.setCell ⟨g, a + j, none⟩ (.int .i64 (gi (swapR d a b j) (b + j)))).setCell ⟨g, b + j, none⟩ (.int .i64 (gi (swapR d a b j) (a + j)))) B (.slice (some ⟨g, 0, none⟩) n cap) (swapR d a b (j + 1))) :=
    (hown.put hlen _).put (by rw [List.length_set]; exact hlen) _
   have HG1 := Lib.hid (grown_put (grown_put hgr (a + j) (.int .i64 (gi (swapR d a b j) (b + j)))) (b + j) (.int .i64 (gi (swapR d a b j) (a + j))))
   generalize gi (swapR d a b j) (b + j) = x at *
   generalize gi (swapR d a b j) (a + j) = y at *
   clear hown hgr hlen
   go_wp2
   go_region
   all_goals go_wp2
   go_roundw
   case rel => exact ⟨j + 1, by omega, by go_num, HO1.out, grown_drewN HG1.out 1⟩
   case measure => simp [intOf]; omega
  ·go_wp2
   go_end0
   obtain rfl : j = k := by omega
   exact ⟨_, rfl, hown, rfl, hgr⟩
set_option maxRecDepth 100000 in
set_option maxHeartbeats 1000000 in
theorem rotate_any (B g n cap : Nat) (d : List Int) (a m b : Nat) (fv : Value) (w : World) (h : OwnI w B (.slice (some ⟨g, 0, none⟩) n cap) d) (hl : n = d.length) (hn : n ≤ 1048576) (ham : a < m) (hmb : m < b) (hb : b ≤ n) :
 Calls Tryz.prog 182 #[.slice (some ⟨g, 0, none⟩) n cap, .int .i64 a, .int .i64 m, .int .i64 b, fv] w (RetTurn w B g n cap (fun d' => d'.Perm d ∧ ∀ x, gi d' x = rotAt d a m b x)) := by
 have HO := Lib.hid h
 have HL := Lib.hid hl
 clear h hl
 go_enter Tryz.func182, Tryz.ntmps182
 go_wp2
 go_loopw [10, 11] (fun vi vj wr => ∃ (i j : Nat) (e : List Int), vi = .int .i64 i ∧ vj = .int .i64 j ∧ 0 < i ∧ 0 < j ∧ i ≤ m ∧ m + j ≤ n ∧ OwnI wr B (.slice (some ⟨g, 0, none⟩) n cap) e ∧ e.Perm d ∧
  (∀ x, rotAt e (m - i) m (m + j) x = rotAt d a m b x) ∧ w.grownBy wr (some g)) (fun vi vj _ => (intOf vi).toNat + (intOf vj).toNat)
 case atStart => exact ⟨m - a, b - m, d, by go_num, by go_num, by omega, by omega, by omega, by omega, HO.out, List.Perm.refl _, fun x => by rw [show m - (m - a) = a by omega, show m + (b - m) = b by omega], World.grownBy.refl _ _⟩
 case round =>
  obtain ⟨i, j, e, rfl, rfl, hi, hj, him, hjn, hown, hperm, hrot, hgr⟩ := hrel
  have hlen : n = e.length := by rw [hperm.length_eq]; exact HL.out
  have HLE := Lib.hid hlen
  have HPE := Lib.hid hperm
  have HRO := Lib.hid hrot
  have HGR := Lib.hid hgr
  have HOW := Lib.hid hown
  clear hlen hperm hrot hgr hown
  have e1 : (m : Int) - (i : Int) = ((m - i : Nat) : Int) := by omega
  have E1 := Lib.hid e1
  clear e1
  by_cases hij : i = j
  ·have e2 : (((i : Nat) : Int) != ((j : Nat) : Int)) = false := by simp [hij]
   have HIJ := Lib.hid hij
   clear hij
   go_wp2_with fail
   rw [E1.out]
   refine (swapRange_any B g n cap e (m - i) m i fv wr HOW.out HLE.out hn (by omega) (by have := HIJ.out; omega)).mono ?_
   rintro e' w1 ⟨d', rfl, ho1, rfl, hg1⟩
   have HO1 := Lib.hid ho1
   have HG1 := Lib.hid (grown_trans HGR.out hg1)
   clear ho1 hg1
   go_wp2_with fail
   go_end0
   refine ⟨_, rfl, HO1.out, ⟨(swapR_perm i (by have := HLE.out; omega) (by have := HLE.out; have := HIJ.out; omega)).trans HPE.out, fun x => ?_⟩, HG1.out⟩
   rw [rotAt_mid him (by have := HLE.out; have := HIJ.out; omega), ← HRO.out x, HIJ.out]
  ·have e2 : (((i : Nat) : Int) != ((j : Nat) : Int)) = true := by simp; omega
   by_cases hgt : j < i
   ·clear hij
    go_wp2_with fail
    rw [E1.out]
    refine (swapRange_any B g n cap e (m - i) m j fv wr HOW.out HLE.out hn (by omega) (by omega)).mono ?_
    rintro e' w1 ⟨d', rfl, ho1, rfl, hg1⟩
    have HO1 := Lib.hid ho1
    have HG1 := Lib.hid (grown_trans HGR.out hg1)
    clear ho1 hg1
    go_wp2_with fail
    go_roundw
    case rel => exact ⟨i - j, j, swapR e (m - i) m j, by go_num, rfl, by omega, by omega, by omega, by omega, HO1.out, (swapR_perm j (by have := HLE.out; omega) (by have := HLE.out; omega)).trans HPE.out, fun x => by rw [rotAt_left him hj hgt (by have := HLE.out; omega)]; exact HRO.out x, HG1.out⟩
    case measure => simp [intOf]; omega
   ·have hlt : i < j := by omega
    have e3 : (m : Int) + (j : Int) - (i : Int) = ((m + j - i : Nat) : Int) := by omega
    have E3 := Lib.hid e3
    clear hij e3
    go_wp2_with fail
    rw [E1.out, E3.out]
    refine (swapRange_any B g n cap e (m - i) (m + j - i) i fv wr HOW.out HLE.out hn (by omega) (by omega)).mono ?_
    rintro e' w1 ⟨d', rfl, ho1, rfl, hg1⟩
    have HO1 := Lib.hid ho1
    have HG1 := Lib.hid (grown_trans HGR.out hg1)
    clear ho1 hg1
    go_wp2_with fail
    go_roundw
    case rel => exact ⟨i, j - i, swapR e (m - i) (m + j - i) i, rfl, by go_num, by omega, by omega, by omega, by omega, HO1.out, (swapR_perm i (by have := HLE.out; omega) (by have := HLE.out; omega)).trans HPE.out, fun x => by rw [rotAt_right him hi hlt (by have := HLE.out; omega)]; exact HRO.out x, HG1.out⟩
    case measure => simp [intOf]; omega
end Go.Proofs.YtlaahgdikiiahaaGreat
