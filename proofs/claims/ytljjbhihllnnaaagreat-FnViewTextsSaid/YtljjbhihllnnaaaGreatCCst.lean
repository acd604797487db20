/- Strings drawn off a cursor: of, spoilt. -/
import Derived.Test.YtljjbhihllnnaaaGreatCJn15
import Derived.Test.YtljjbhihllnnaaaGreatCJn28
import Derived.Deep.DeepCutAuto
import Derived.Laws.DeepStrings4
import Derived.Laws.IdiomStrings
import Derived.Laws.Concat
import Derived.Laws.Strings
namespace Go.Proofs.YtljjbhihllnnaaaGreat
open Go.RowKit

/-- some text; the cursor goes on -/
def RetSt (w : World) (gc : Nat) (cv : Value) (L A K : Nat) (e : Ending) (w' : World) : Prop := ∃ s : ByteArray, e = .returned (.string s) ∧ s.size ≤ K ∧ CurR w' gc cv L A ∧ w.grownBy w' (some gc)

set_option maxRecDepth 100000 in
theorem of_any (w : World) (gc : Nat) (cv : Value) (L A g n c K : Nat) (h : CurR w gc cv L A) (hp : A ≤ 4611686018427387900) (hg : g ≠ gc) (hn0 : 0 < n) (hn : n ≤ 1048576) (hx : ∀ j, j < n → ∃ s : ByteArray, w.cell? ⟨g, j, none⟩ = some (.string s) ∧ s.size ≤ K) :
    Calls Tryz.prog 66 #[.pointer (some ⟨gc, 0, none⟩), .slice (some ⟨g, 0, none⟩) n c] w (RetSt w gc cv L (A + 2) K) := by
  have CP := Lib.hid (pick_any w gc cv L A n h hp)
  have HX := Lib.hid hx
  clear h hx
  go_enter Tryz.func66, Tryz.ntmps66
  go_wp2_with fail
  refine CP.out.mono ?_
  rintro e w1 ⟨x, rfl, ⟨hx1, hx2, hx3⟩, hc, hgr⟩
  have HC := Lib.hid hc
  have HG := Lib.hid hgr
  obtain ⟨j, hj⟩ : ∃ j : Nat, x = j := ⟨x.toNat, by omega⟩
  subst hj
  have hjl : j < n := by omega
  obtain ⟨s, h0, hs⟩ := HX.out j hjl
  have h1 : w1.cell? ⟨g, j, none⟩ = some (.string s) := (World.cell?_of_block (hgr.block g (lt_of_cell h0) (by simpa using hg))).trans h0
  have HS := Lib.hid hs
  clear hc hgr h0 hx3 hs
  go_wp2_with fail
  go_ret
  exact ⟨s, rfl, HS.out, HC.out, HG.out⟩

set_option maxRecDepth 100000 in
set_option maxHeartbeats 2000000 in
theorem spoilt_any (w : World) (gc : Nat) (cv : Value) (L A : Nat) (t u : ByteArray) (h : CurR w gc cv L A) (hp : A ≤ 4611686018427380000) (ht : t.size ≤ 100000) (hu : 0 < u.size) (hu2 : u.size ≤ 1000) :
    Calls Tryz.prog 65 #[.pointer (some ⟨gc, 0, none⟩), .string t, .string u] w (RetSt w gc cv L (A + 20) (t.size + 2)) := by
  have HCP := Lib.hid (pick_any w gc cv L A 2 h (by omega))
  have hgc := h.lt
  clear h
  go_enter Tryz.func65, Tryz.ntmps65
  go_wp2_with fail
  refine HCP.out.mono ?_
  rintro e w1 ⟨x, rfl, ⟨hx1, hx2, hx3⟩, hc, hg⟩
  obtain ⟨j, hj⟩ : ∃ j : Nat, x = j := ⟨x.toNat, by omega⟩
  subst hj
  have hj2 : j < 2 := by omega
  have HC := Lib.hid hc
  have HG := Lib.hid hg
  clear hc hg hx1 hx2 hx3
  go_wp2_with fail
  go_loopw [1, 7] (fun x1 x7 wr => ∃ (k A1 : Nat) (s : ByteArray), k ≤ 2 ∧ x7 = .int .i64 k ∧ x1 = .string s ∧ s.size + k ≤ t.size + 2 ∧ A1 + 6 * k ≤ A + 14 ∧ CurR wr gc cv L A1 ∧ w.grownBy wr (some gc)) (fun _ x7 _ => (intOf x7).toNat)
  case atStart => exact ⟨j + 1, A + 2, t, by omega, by go_num, rfl, by omega, by omega, HC.out, HG.out⟩
  case round =>
    clear HC HG HCP
    obtain ⟨k, A1, s, hk, rfl, rfl, hs, hA, hc, hg⟩ := hrel
    obtain ⟨wr2, rfl⟩ : ∃ wr2, wr2 = wr := ⟨_, rfl⟩
    have HC := Lib.hid hc
    have HG := Lib.hid hg
    clear hc hg
    by_cases hk0 : k = 0
    · subst hk0
      go_wp2_with fail
      go_ret
      exact ⟨s, rfl, by omega, by obtain ⟨p, q, h1, h2⟩ := HC.out; exact ⟨p, q, by omega, h2⟩, HG.out⟩
    · have k1 : (0 : Int) < (k : Int) := by omega
      by_cases hs0 : s.size = 0
      · have k2 : ¬ (0 : Int) < (s.size : Int) := by omega
        go_wp2_with fail
        go_ret
        exact ⟨s, rfl, by omega, by obtain ⟨p, q, h1, h2⟩ := HC.out; exact ⟨p, q, by omega, h2⟩, HG.out⟩
      · have k2 : (0 : Int) < (s.size : Int) := by omega
        have CP1 := Lib.hid (pick_any wr2 gc cv L A1 s.size HC.out (by omega))
        go_upto_region 5 with (go_at_call 63; refine CP1.out.mono ?_; rintro e w2 ⟨xi, rfl, ⟨hi1, hi2, hi3⟩, hc2, hg2⟩)
        obtain ⟨i, hi⟩ : ∃ i : Nat, xi = i := ⟨xi.toNat, by omega⟩
        subst hi
        have hil : i < s.size := by omega
        have HG2 := Lib.hid (grown_trans HG.out hg2)
        have CP2 := Lib.hid (pick_any w2 gc cv L (A1 + 2) u.size hc2 (by omega))
        clear hc2 hg2 hi1 hi2 hi3 CP1
        have HS := Lib.hid hs
        go_upto_region 6 with fail
        refine CP2.out.mono ?_
        rintro e w3 ⟨xj, rfl, ⟨hj1, hj3, hj4⟩, hc3, hg3⟩
        obtain ⟨m, hm⟩ : ∃ m : Nat, xj = m := ⟨xj.toNat, by omega⟩
        subst hm
        have hml : m < u.size := by omega
        have hz1 := UInt8.toNat_lt u[m]
        have hcv := fun W => conv_byte (W.alloc (.cells #[.int .u8 (u[m].toNat : Nat)] 5)) (u[m].toNat : Nat) (by omega) (by omega) W.heap.size 5 (Blk.new W _ _)
        have i1 : (0 : Int) ≤ (m : Int) := by omega
        have i2 : (m : Int) < (u.size : Int) := by omega
        have HC3 := Lib.hid hc3
        have HG3 := Lib.hid (grown_trans HG2.out hg3)
        clear hc3 hg3 hj1 hj3 hj4
        go_upto_region 6 with fail
        obtain ⟨b, hb⟩ : ∃ b, b = strB [u[m]] := ⟨_, rfl⟩
        have hbs : b.size = 1 := by rw [hb, strB_size]; rfl
        have hbl : Below w3.heap.size w3 (w3.alloc (.cells #[.int .u8 (u[m].toNat : Nat)] 5)) := (Below.refl _ _).alloc (Nat.le_refl _) _
        have HC4 := Lib.hid (HC3.out.keep hbl)
        have HG4 := Lib.hid (grown_trans HG3.out (grown_below (World.grownBy.refl w3 (some gc)) hbl))
        rw [← hb]
        generalize w3.alloc (.cells #[.int .u8 (u[m].toNat : Nat)] 5) = w4 at *
        have CP3 := Lib.hid (pick_any w4 gc cv L (A1 + 2 + 2) 3 HC4.out (by omega))
        clear hbl hcv hb hz1 HG HG2 HG3 HC HC3 HC4 CP2
        go_upto_region 8 with fail
        refine CP3.out.mono ?_
        rintro e w5 ⟨y, rfl, ⟨hy1, hy2, hy3⟩, hc5, hg5⟩
        have HC5 := Lib.hid hc5
        have HG5 := Lib.hid (grown_trans HG4.out hg5)
        clear hc5 hg5 CP3 HG4
        go_upto_region 8 with fail
        have j1 : (0 : Int) ≤ (i : Int) := by omega
        have j2 : (i : Int) ≤ (s.size : Int) := by omega
        have j3 : (0 : Int) ≤ (i : Int) + 1 := by omega
        have j4 : (i : Int) + 1 ≤ (s.size : Int) := by omega
        have hw : IntKind.i64.wrap ((i : Int) + 1) = (i : Int) + 1 := IntWalk.i64_in _ (by omega)
        by_cases hy0 : y = 0
        · subst hy0
          go_wp2_with fail
          go_quiet (fail)
          go_wp2_with fail
          go_roundw
          case rel => exact ⟨k - 1, A1 + 6, _, by omega, by congr 1; omega, rfl, by have := HS.out; simp only [ByteArray.size_append, ByteArray.size_extract]; omega, by omega, (HC5.out.keep (below_drewN (Below.refl w5.heap.size w5) _)), grown_drewN HG5.out _⟩
          case measure => simp [intOf]; omega
        · have hy4 : (y == 0) = false := by simpa using hy0
          by_cases hy5 : y = 1
          · subst hy5
            go_wp2_with fail
            go_quiet (fail)
            go_wp2_with fail
            go_roundw
            case rel => exact ⟨k - 1, A1 + 6, _, by omega, by congr 1; omega, rfl, by have := HS.out; simp only [ByteArray.size_append, ByteArray.size_extract]; omega, by omega, (HC5.out.keep (below_drewN (Below.refl w5.heap.size w5) _)), grown_drewN HG5.out _⟩
            case measure => simp [intOf]; omega
          · have hy6 : (y == 1) = false := by simpa using hy5
            go_wp2_with fail
            go_quiet (fail)
            go_wp2_with fail
            go_roundw
            case rel => exact ⟨k - 1, A1 + 6, _, by omega, by congr 1; omega, rfl, by have := HS.out; simp only [ByteArray.size_append, ByteArray.size_extract]; omega, by omega, (HC5.out.keep (below_drewN (Below.refl w5.heap.size w5) _)), grown_drewN HG5.out _⟩
            case measure => simp [intOf]; omega
end Go.Proofs.YtljjbhihllnnaaaGreat
