/- The library's exchange of ranges and rotation, at slices of int that the call owns. -/
import Derived.Test.YtolpiolnhgpjjaaGreatCJn11
import Derived.Test.YtolpiolnhgpjjaaGreatCJn9
import Derived.RegionTactic
import Derived.ChangeAlike
set_option linter.unusedSimpArgs false
set_option linter.unusedVariables false
namespace Go.Proofs.YtolpiolnhgpjjaaGreat
open Go.RowKit
def nc (w : World) (B g n cap : Nat) (P : List Int → Prop) (e : Ending) (w' : World) : Prop :=
 ∃ d', e = .returned (.tuple #[]) ∧ OwnI w' B (.slice (some ⟨g, 0, none⟩) n cap) d' ∧ P d' ∧ w.grownBy w' (some g)
set_option maxRecDepth 100000 in
set_option maxHeartbeats 1000000 in
theorem nf (B g n cap : Nat) (d : List Int) (a b k : Nat) (fv : Value) (w : World) (h : OwnI w B (.slice (some ⟨g, 0, none⟩) n cap) d) (hl : n = d.length) (hn : n ≤ 1048576) (hab : a + k ≤ b) (hb : b + k ≤ n) :
 Calls Tryz.prog 222 #[.slice (some ⟨g, 0, none⟩) n cap, .int .i64 a, .int .i64 b, .int .i64 k, fv] w (nc w B g n cap (fun d' => d' = ip d a b k)) := by
 have HO := Lib.hid h;have HL := Lib.hid hl;clear h hl
 go_enter Tryz.func222, Tryz.ntmps222
 go_wp2
 go_loopw [10] (fun i wr => ∃ j : Nat, j ≤ k ∧ i = .int .i64 j ∧ OwnI wr B (.slice (some ⟨g, 0, none⟩) n cap) (ip d a b j) ∧ w.grownBy wr (some g)) (fun i _ => k - (intOf i).toNat)
 case atStart => exact ⟨0, Nat.zero_le _, rfl, HO.out, World.grownBy.refl _ _⟩
 case round =>
  obtain ⟨j, hj, rfl, hown, hgr⟩ := hrel
  by_cases hlt : j < k
  ·have hlen : n = (ip d a b j).length := by rw [ia]; exact HL.out
   obtain ⟨c1, f1⟩ := hown.at_ hlen (j := a + j) (by omega);obtain ⟨c2, f2⟩ := hown.at_ hlen (j := b + j) (by omega)
   have HO1 : Hid (OwnI ((wr.setCell ⟨g, a + j, none⟩ (.int .i64 (gi (ip d a b j) (b + j)))).setCell ⟨g, b + j, none⟩ (.int .i64 (gi (ip d a b j) (a + j)))) B (.slice (some ⟨g, 0, none⟩) n cap) (ip d a b (j + 1))) :=
    (hown.put hlen _).put (by rw [List.length_set]; exact hlen) _
   have HG1 := Lib.hid (gj (gj hgr (a + j) (.int .i64 (gi (ip d a b j) (b + j)))) (b + j) (.int .i64 (gi (ip d a b j) (a + j))))
   generalize gi (ip d a b j) (b + j) = x at *
   generalize gi (ip d a b j) (a + j) = y at *
   clear hown hgr hlen
   go_wp2
   go_region
   all_goals go_wp2
   go_roundw
   case rel => exact ⟨j + 1, by omega, by go_num, HO1.out, ch HG1.out 1⟩
   case measure => simp [intOf]; omega
  ·go_wp2
   go_end0
   obtain rfl : j = k := by omega
   exact ⟨_, rfl, hown, rfl, hgr⟩
set_option maxRecDepth 100000 in
set_option maxHeartbeats 1000000 in
theorem Jv (B g n cap : Nat) (d : List Int) (a m b : Nat) (fv : Value) (w : World) (h : OwnI w B (.slice (some ⟨g, 0, none⟩) n cap) d) (hl : n = d.length) (hn : n ≤ 1048576) (ham : a < m) (hmb : m < b) (hb : b ≤ n) :
 Calls Tryz.prog 214 #[.slice (some ⟨g, 0, none⟩) n cap, .int .i64 a, .int .i64 m, .int .i64 b, fv] w (nc w B g n cap (fun d' => d'.Perm d ∧ ∀ x, gi d' x = iq d a m b x)) := by
 have HO := Lib.hid h;have HL := Lib.hid hl;clear h hl
 go_enter Tryz.func214, Tryz.ntmps214
 go_wp2
 go_loopw [10, 11] (fun vi vj wr => ∃ (i j : Nat) (e : List Int), vi = .int .i64 i ∧ vj = .int .i64 j ∧ 0 < i ∧ 0 < j ∧ i ≤ m ∧ m + j ≤ n ∧ OwnI wr B (.slice (some ⟨g, 0, none⟩) n cap) e ∧ e.Perm d ∧
  (∀ x, iq e (m - i) m (m + j) x = iq d a m b x) ∧ w.grownBy wr (some g)) (fun vi vj _ => (intOf vi).toNat + (intOf vj).toNat)
 case atStart => exact ⟨m - a, b - m, d, by go_num, by go_num, by omega, by omega, by omega, by omega, HO.out, List.Perm.refl _, fun x => by rw [show m - (m - a) = a by omega, show m + (b - m) = b by omega], World.grownBy.refl _ _⟩
 case round =>
  obtain ⟨i, j, e, rfl, rfl, hi, hj, him, hjn, hown, hperm, hrot, hgr⟩ := hrel;have hlen : n = e.length := by rw [hperm.length_eq]; exact HL.out
  have HLE := Lib.hid hlen;have HPE := Lib.hid hperm;have HRO := Lib.hid hrot;have HGR := Lib.hid hgr;have HOW := Lib.hid hown;clear hlen hperm hrot hgr hown;have e1 : (m : Int) - (i : Int) = ((m - i : Nat) : Int) := by omega
  have E1 := Lib.hid e1;clear e1
  by_cases hij : i = j
  ·have e2 : (((i : Nat) : Int) != ((j : Nat) : Int)) = false := by simp [hij]
   have HIJ := Lib.hid hij;clear hij
   go_wp2_with fail
   rw [E1.out];refine (nf B g n cap e (m - i) m i fv wr HOW.out HLE.out hn (by omega) (by have := HIJ.out; omega)).mono ?_;rintro e' w1 ⟨d', rfl, ho1, rfl, hg1⟩;have HO1 := Lib.hid ho1;have HG1 := Lib.hid (cr HGR.out hg1);clear ho1 hg1
   go_wp2_with fail
   go_end0
   refine ⟨_, rfl, HO1.out, ⟨(oz i (by have := HLE.out; omega) (by have := HLE.out; have := HIJ.out; omega)).trans HPE.out, fun x => ?_⟩, HG1.out⟩;rw [Nx him (by have := HLE.out; have := HIJ.out; omega), ← HRO.out x, HIJ.out]
  ·have e2 : (((i : Nat) : Int) != ((j : Nat) : Int)) = true := by simp; omega
   by_cases hgt : j < i
   ·clear hij
    go_wp2_with fail
    rw [E1.out];refine (nf B g n cap e (m - i) m j fv wr HOW.out HLE.out hn (by omega) (by omega)).mono ?_;rintro e' w1 ⟨d', rfl, ho1, rfl, hg1⟩;have HO1 := Lib.hid ho1;have HG1 := Lib.hid (cr HGR.out hg1);clear ho1 hg1
    go_wp2_with fail
    go_roundw
    case rel => exact ⟨i - j, j, ip e (m - i) m j, by go_num, rfl, by omega, by omega, by omega, by omega, HO1.out, (oz j (by have := HLE.out; omega) (by have := HLE.out; omega)).trans HPE.out, fun x => by rw [Jw him hj hgt (by have := HLE.out; omega)]; exact HRO.out x, HG1.out⟩
    case measure => simp [intOf]; omega
   ·have hlt : i < j := by omega
    have e3 : (m : Int) + (j : Int) - (i : Int) = ((m + j - i : Nat) : Int) := by omega
    have E3 := Lib.hid e3;clear hij e3
    go_wp2_with fail
    rw [E1.out, E3.out];refine (nf B g n cap e (m - i) (m + j - i) i fv wr HOW.out HLE.out hn (by omega) (by omega)).mono ?_;rintro e' w1 ⟨d', rfl, ho1, rfl, hg1⟩;have HO1 := Lib.hid ho1;have HG1 := Lib.hid (cr HGR.out hg1);clear ho1 hg1
    go_wp2_with fail
    go_roundw
    case rel => exact ⟨i, j - i, ip e (m - i) (m + j - i) i, rfl, by go_num, by omega, by omega, by omega, by omega, HO1.out, (oz i (by have := HLE.out; omega) (by have := HLE.out; omega)).trans HPE.out, fun x => by rw [Hm him hi hlt (by have := HLE.out; omega)]; exact HRO.out x, HG1.out⟩
    case measure => simp [intOf]; omega
end Go.Proofs.YtolpiolnhgpjjaaGreat
