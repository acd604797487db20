/- The two function values of ViewText; the amounts are lengths. -/
import Derived.Test.YtljjbhihllnnaaaGreatCVm1
import Derived.Test.YtljjbhihllnnaaaGreatCIm4
namespace Go.Proofs.YtljjbhihllnnaaaGreat
open Go.RowKit

def whT (N : Net) (v p : Nat) : Nat := if (gl N.ends v).length = 0 then 3 else 3 * (gl N.ends v).length + p + 4
theorem amt_ntx (N : Net) : ∀ t v, amt N 4001 3 (whT N) t v = min (ntx N t v).length 4001
  | 0, v => by rw [ntx_zero, hdT_len]; rfl
  | t + 1, v => by
    have ih : amt N 4001 3 (whT N) t = fun u => min (ntx N t u).length 4001 := funext fun u => amt_ntx N t u
    show min (whT N v (sumE (amt N 4001 3 (whT N) t) (gl N.ends v))) 4001 = _
    rw [ih, ntx_len]
    have h := sumE_min (fun u => (ntx N t u).length) 4001 (gl N.ends v)
    unfold whT
    by_cases h0 : gl N.ends v = []
    · rw [h0]; simp
    · have h1 : (gl N.ends v).length ≠ 0 := fun e => h0 (List.eq_nil_of_length_eq_zero e)
      rw [if_neg h1, if_neg h0]
      omega

set_option maxRecDepth 100000 in
set_option maxHeartbeats 1000000 in
theorem vt1_any (w : World) : LeafF w 49 #[] 3 := by
  refine ⟨Enters.of Tryz.func49 (by kernel_rfl) rfl, fun x W hW => ?_⟩
  show Calls Tryz.prog 49 #[.int .i64 (x : Nat)] W _
  go_enter Tryz.func49, Tryz.ntmps49
  go_wp2_with fail
  go_ret
  exact ⟨rfl, Below.refl _ _⟩

set_option maxRecDepth 100000 in
set_option maxHeartbeats 1000000 in
theorem vt2_any {S : Nat → Prop} (ve vi vn : Value) (N : Net) (bx : Nat) (w : World) (h : NetR w S (.agg #[ve, vi, vn]) N) (hg : goodB N = true) (hb : Blk w bx 27 #[ve, vi, vn]) :
    WholeF w 50 #[.pointer (some ⟨bx, 0, none⟩)] N.ends.length 4001 (whT N) := by
  refine ⟨Enters.of Tryz.func50 (by kernel_rfl) rfl, fun v p W hW hv hp => ?_⟩
  show Calls Tryz.prog 50 #[.int .i64 (v : Nat), .int .i64 (p : Nat), .pointer (some ⟨bx, 0, none⟩)] W _
  have kb := (hb.below hW).cell
  have HB := Lib.hid hb
  obtain ⟨hd6, -, hn40, -, -⟩ := good_row hg hv
  obtain ⟨ve', vi', vn', hvv, he, -, -⟩ := h
  cases hvv
  obtain ⟨A, c, rfl, -, -, hx⟩ := he
  obtain ⟨b, off, rfl, -, hc⟩ := hx (by omega)
  obtain ⟨u, hu, hur⟩ := hc v hv
  obtain ⟨Ae, ce, rfl, -, -, -⟩ := hur
  have hbl := lt_of_cell hu
  have cu : W.cell? ⟨b, off + v, none⟩ = some (.slice Ae (gl N.ends v).length ce) := (hW.cell (p := ⟨b, off + v, none⟩) hbl).trans hu
  have i0 : (0 : Int) ≤ (v : Int) := by omega
  have i1 : (v : Int) < (N.ends.length : Int) := by omega
  have hwt : Hid (whT N v p = if (gl N.ends v).length = 0 then 3 else 3 * (gl N.ends v).length + p + 4) := Lib.hid rfl
  clear hc hx hu hg hb
  generalize whT N v p = r at hwt ⊢
  generalize (gl N.ends v).length = dg at *
  by_cases h0 : dg = 0
  · have HQ := Lib.hid (hwt.out.trans (if_pos h0))
    have g0 : ¬ (0 : Int) < (dg : Int) := by omega
    clear h0 hwt
    go_enter Tryz.func50, Tryz.ntmps50
    go_wp2_with fail
    go_ret
    exact ⟨by rw [HQ.out]; rfl, Below.refl _ _⟩
  · have HQ := Lib.hid (hwt.out.trans (if_neg h0))
    have g0 : (0 : Int) < (dg : Int) := by omega
    clear h0 hwt
    go_enter Tryz.func50, Tryz.ntmps50
    go_wp2_with fail
    go_ret
    exact ⟨by rw [HQ.out]; exact congrArg (fun z : Int => Ending.returned (Value.int .i64 z)) (by omega), Below.refl _ _⟩
end Go.Proofs.YtljjbhihllnnaaaGreat
