/- laws.numberOf over data: which number comes out. -/
import Derived.Test.YtolpiolnhgpjjaaGreatCDcu
import Derived.Test.YtolpiolnhgpjjaaGreatCJn17
import Derived.Test.YtolpiolnhgpjjaaGreatCJn9
import Derived.Test.YtolpiolnhgpjjaaGreatCJn7
import Derived.Test.YtolpiolnhgpjjaaGreatCNw1
import Derived.Test.YtolpiolnhgpjjaaGreatCNw3
import Derived.StillTailTactics
set_option linter.unusedSimpArgs false
set_option linter.unusedVariables false
namespace Go.Proofs.YtolpiolnhgpjjaaGreat
open Go Go.RowKit
def E9 (bs : List Int) : Nat → Nat
 | 0 => 0
 | k + 1 => (31 * E9 bs k + (gi bs k).toNat) % 1000003
theorem R4 (bs : List Int) : ∀ k, E9 bs k < 1000003
 | 0 => by rw [E9]; omega
 | k + 1 => by rw [E9]; exact Nat.mod_lt _ (by omega)
set_option maxRecDepth 100000 in
set_option maxHeartbeats 2000000 in
theorem H6 (bs : List Int) (hby : da bs) : DCalls Tryz.prog 25 [.c (fq bs)] (fun r => r = [.c (.p (.int .i64 (E9 bs bs.length : Nat)))]) := ga fun W vs g1 g2 => by
 obtain ⟨u, rfl, g3⟩ := Cm g1 g2;have g4 : RO W (fun _ => True) (fq bs) u := g3;obtain ⟨A, c, rfl, -, -, g5⟩ := g4.shape;rw [List.length_map];have hL := hby.1;obtain ⟨L, hLe⟩ : ∃ L, L = bs.length := ⟨_, rfl⟩;obtain ⟨z, hze⟩ : ∃ z : Nat → Nat, z = fun j => (gi bs j).toNat := ⟨_, rfl⟩;obtain ⟨f, hfe⟩ : ∃ f, f = E9 bs := ⟨_, rfl⟩
 have hz : 0 < L → ∃ b off, A = some ⟨b, off, none⟩ ∧ ∀ j, j < L → z j ≤ 255 ∧ W.cell? ⟨b, off + j, none⟩ = some (.int .u8 (z j : Nat)) := fun hp => by
  obtain ⟨b, off, rfl, -, -, -, h7⟩ := g5 (by intro he; have := congrArg List.length he; simp at this; rw [hLe, this] at hp; simp at hp);refine ⟨b, off, rfl, fun j hj => ?_⟩;have hjb : j < bs.length := by omega
  obtain ⟨k1, k2⟩ := hby.2 _ (List.getElem_mem hjb);obtain ⟨u, h8, h9⟩ := h7 j 0 (.p (.int .u8 bs[j])) (ld (List.getElem?_eq_getElem hjb) rfl);rw [show off + j * 1 + 0 = off + j by omega] at h8;have hgj : z j = (bs[j]).toNat := by rw [hze]; exact congrArg Int.toNat (bm hjb)
  rw [h8, fh h9, hgj, Int.toNat_of_nonneg k1];exact ⟨by omega, rfl⟩
 have hf0 : f 0 = 0 := by rw [hfe]; rfl
 have hfs : ∀ j, f (j + 1) = (31 * f j + z j) % 1000003 := fun j => by rw [hfe, hze]; rfl
 have hfl : ∀ j, f j < 1000003 := fun j => by rw [hfe]; exact R4 _ _
 rw [← hfe, ← hLe];rw [← hLe] at hL;have HX := Lib.hid hz;have HF := Lib.hid (And.intro hf0 (And.intro hfs hfl));clear hz hf0 hfs hfl hfe hze hLe g5 g4 g3 g2 g1;refine Calls.mono (R := fun e w' => w' = W ∧ e = .returned (.int .i64 (f L : Nat))) ?_ (fun e w' ⟨a, b⟩ => ⟨b, a ▸ Below.refl _ _⟩)
 go_enter Tryz.func25, Tryz.ntmps25
 go_wp2_with fail
 go_loopw [8, 3] (fun x8 x3 wr => ∃ (k : Nat), k ≤ L ∧ x8 = .int .i64 k ∧ x3 = .int .i64 (f k : Nat) ∧ wr = W) (fun x8 _ _ => L - (intOf x8).toNat)
 case atStart => exact ⟨0, Nat.zero_le _, rfl, by rw [HF.out.1]; rfl, rfl⟩
 case round =>
  obtain ⟨k, hk, rfl, rfl, rfl⟩ := hrel
  by_cases hlt : k < L
  ·obtain ⟨b, off, rfl, hc⟩ := HX.out (by omega);obtain ⟨hz1, hc1⟩ := hc k hlt;have hnx := HF.out.2.1 k;have hfk := HF.out.2.2 k;have HN := Lib.hid hnx;obtain ⟨x, hx⟩ : ∃ x, x = f k := ⟨_, rfl⟩;obtain ⟨y, hy⟩ : ∃ y, y = z k := ⟨_, rfl⟩;rw [← hx] at hfk;rw [← hy] at hc1 hz1;have HXY := Lib.hid (And.intro hx hy);rw [← hx];have i1 : (0 : Int) ≤ (k : Int) := by omega
   have i2 : (k : Int) < (L : Int) := by omega
   clear hc hnx hx hy
   go_wp2_with fail
   go_roundw
   case rel => exact ⟨k + 1, by omega, by go_num, by rw [HN.out, ← HXY.out.1, ← HXY.out.2]; go_num, by first | rfl | trivial⟩
   case measure => simp [intOf]; omega
  ·obtain rfl : k = L := by omega
   go_wp2_with fail
   go_ret
   exact ⟨rfl, rfl⟩
end Go.Proofs.YtolpiolnhgpjjaaGreat
