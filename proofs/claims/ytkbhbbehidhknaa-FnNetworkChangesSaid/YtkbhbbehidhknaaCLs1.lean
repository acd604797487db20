/- The statements' own helpers: sizes of codes, equal lists, equal networks. -/
import Derived.Test.YtkbhbbehidhknaaChecked
import Derived.Test.YtkbhbbehidhknaaCJn0
import Derived.Deep.RegionWith
import Derived.Laws.StructEq
namespace Go.Proofs.Ytkbhbbehidhknaa
open Go.RowKit

def sameL (xs ys : List Int) : Bool := decide (xs = ys)
theorem ints_extL {xs ys : List Int} (hl : xs.length = ys.length) (h : ∀ j, j < xs.length → gi xs j = gi ys j) : xs = ys := by
  apply List.ext_getElem hl
  intro i h1 h2
  have := h i h1
  rwa [gi_lt h1, gi_lt h2] at this


set_option maxHeartbeats 400000 in
theorem sameInts_any {S S' : Nat → Prop} (v u : Value) (xs ys : List Int) (w : World) (h : IntsR w S v xs) (h' : IntsR w S' u ys) :
    Calls Try.prog 30 #[v, u] w (RetD w (.bool (sameL xs ys))) := by
  have hb := h.bound
  obtain ⟨A, c, rfl, hnc, hm, hx⟩ := h
  obtain ⟨A', c', rfl, hnc', hm', hx'⟩ := h'
  have HX := Lib.hid hx
  have HX' := Lib.hid hx'
  clear hx hx'
  by_cases hl : xs.length = ys.length
  · have HL := Lib.hid hl
    have e1 : (((xs.length : Nat) : Int) != ((ys.length : Nat) : Int)) = false := by simp [hl]
    clear hl
    go_enter Try.func30, Try.ntmps30
    go_wp2
    go_loopw [13] (fun i wr => ∃ k : Nat, k ≤ xs.length ∧ i = .int .i64 k ∧ (∀ j, j < k → gi xs j = gi ys j) ∧ ∃ m, wr = w.drewN m)
      (fun i _ => xs.length - (intOf i).toNat)
    case atStart => exact ⟨0, Nat.zero_le _, rfl, fun j hj => absurd hj (Nat.not_lt_zero _), 0, rfl⟩
    case round =>
      obtain ⟨k, hk, rfl, hsame, m, rfl⟩ := hrel
      have HS := Lib.hid hsame
      clear hsame
      by_cases hlt : k < xs.length
      · have hlt' : k < ys.length := by rw [← HL.out]; exact hlt
        obtain ⟨b, off, rfl, -, hc⟩ := HX.out (by omega)
        obtain ⟨b', off', rfl, -, hc'⟩ := HX'.out (by omega)
        have h1 := hc k hlt
        have h2 := hc' k hlt'
        have i1 : (0 : Int) ≤ (k : Int) := by omega
        have i2 : (k : Int) < (xs.length : Int) := by omega
        have i3 : (k : Int) < (ys.length : Int) := by omega
        clear hc hc'
        by_cases he : gi xs k = gi ys k
        · have e2 : (gi xs k != gi ys k) = false := by simp [he]
          have HE := Lib.hid he
          clear he
          go_wp2
          go_quiet (fail)
          go_wp2
          go_roundw
          case rel =>
            refine ⟨k + 1, by omega, by go_num, fun j hj => ?_, _, rfl⟩
            by_cases h1 : j = k
            · subst h1; exact HE.out
            · exact HS.out j (by omega)
          case measure => simp [intOf]; omega
        · have e2 : (gi xs k != gi ys k) = true := by simp [he]
          have HE := Lib.hid he
          clear he
          go_wp2
          go_quiet (fail)
          go_wp2
          go_ret
          have : sameL xs ys = false := by
            simp only [sameL, decide_eq_false_iff_not]
            intro h3; exact HE.out (by rw [h3])
          rw [this]
          exact ⟨rfl, _, World.drewN_drewN _ _ _⟩
      · have hk : k = xs.length := by omega
        have : sameL xs ys = true := by
          simp only [sameL, decide_eq_true_eq]
          exact ints_extL HL.out (fun j hj => HS.out j (by omega))
        have HT := Lib.hid this
        clear this
        go_wp2
        go_ret
        rw [HT.out]
        exact ⟨rfl, _, rfl⟩
  · have e1 : (((xs.length : Nat) : Int) != ((ys.length : Nat) : Int)) = true := by simp; omega
    have : sameL xs ys = false := by
      simp only [sameL, decide_eq_false_iff_not]
      intro h3; exact hl (by rw [h3])
    have HT := Lib.hid this
    clear this hl
    go_enter Try.func30, Try.ntmps30
    go_wp2
    go_ret
    rw [HT.out]
    exact ⟨rfl, 0, rfl⟩

/-- big: only the lengths count -/
theorem big_any (A A' : Option Addr) (n n' c c' : Nat) (w : World) (hn : n ≤ 9223372036854775807) (hn' : n' ≤ 9223372036854775807) :
    Calls Try.prog 4 #[.slice A n c, .slice A' n' c'] w (RetQ w (.bool (decide (1048576 < n ∨ 1048576 < n + n')))) := by
  by_cases h1 : 1048576 < n
  · have e : decide (1048576 < n ∨ 1048576 < n + n') = true := by simp [h1]
    rw [e]
    have h1' : (1048576 : Int) < (n : Int) := by omega
    go_enter Try.func4, Try.ntmps4
    go_wp2_with fail
    go_ret
    exact ⟨rfl, rfl⟩
  · have h1' : ¬ (1048576 : Int) < (n : Int) := by omega
    by_cases h2 : 1048576 < n + n'
    · have e : decide (1048576 < n ∨ 1048576 < n + n') = true := by simp [h2]
      rw [e]
      have h2' : (1048576 : Int) - (n : Int) < (n' : Int) := by omega
      go_enter Try.func4, Try.ntmps4
      go_wp2_with fail
      go_ret
      exact ⟨rfl, rfl⟩
    · have e : decide (1048576 < n ∨ 1048576 < n + n') = false := by simp; omega
      rw [e]
      have h2' : ¬ (1048576 : Int) - (n : Int) < (n' : Int) := by omega
      go_enter Try.func4, Try.ntmps4
      go_wp2_with fail
      go_ret
      exact ⟨rfl, rfl⟩

set_option maxRecDepth 100000 in
set_option maxHeartbeats 4000000 in
/-- equal networks -/
theorem pSameNet_same {S S' : Nat → Prop} (u u' : Value) (N : Net) (w : World) (h : NetR w S u N) (h' : NetR w S' u' N) :
    Calls Try.prog 8 #[u, u'] w (RetV w (.bool true)) := by
  obtain ⟨ve, vi, vn, rfl, he, hi, hn⟩ := h
  obtain ⟨ve', vi', vn', rfl, he', hi', hn'⟩ := h'
  have HE := Lib.hid he
  have HI := Lib.hid hi
  have HN := Lib.hid hn
  have HE' := Lib.hid he'
  have HI' := Lib.hid hi'
  have HN' := Lib.hid hn'
  obtain ⟨A, c, rfl, hnc, hmc, hx⟩ := he
  obtain ⟨A', c', rfl, -, -, hx'⟩ := he'
  obtain ⟨A1, c1, rfl, -, -, -⟩ := hi
  obtain ⟨A1', c1', rfl, -, -, -⟩ := hi'
  obtain ⟨A2, c2, rfl, -, -, -⟩ := hn
  obtain ⟨A2', c2', rfl, -, -, -⟩ := hn'
  unfold maxLen at hmc
  have HX := Lib.hid hx
  have HX' := Lib.hid hx'
  clear hx hx'
  have HB := Lib.hid (((Below.refl w.heap.size w).alloc (Nat.le_refl _) (.cells #[.slice A N.ends.length c, .slice A1 N.ids.length c1, .slice A2 N.inputs.length c2] 27)).alloc (by simp) (.cells #[.slice A' N.ends.length c', .slice A1' N.ids.length c1', .slice A2' N.inputs.length c2'] 27))
  have HK0 := Lib.hid ((Blk.new w 27 #[.slice A N.ends.length c, .slice A1 N.ids.length c1, .slice A2 N.inputs.length c2]).alloc (.cells #[.slice A' N.ends.length c', .slice A1' N.ids.length c1', .slice A2' N.inputs.length c2'] 27))
  have HK1 : Hid (Blk ((w.alloc (.cells #[.slice A N.ends.length c, .slice A1 N.ids.length c1, .slice A2 N.inputs.length c2] 27)).alloc (.cells #[.slice A' N.ends.length c', .slice A1' N.ids.length c1', .slice A2' N.inputs.length c2'] 27)) (w.heap.size + 1) 27 #[.slice A' N.ends.length c', .slice A1' N.ids.length c1', .slice A2' N.inputs.length c2']) := Lib.hid (by
    have := Blk.new (w.alloc (.cells #[.slice A N.ends.length c, .slice A1 N.ids.length c1, .slice A2 N.inputs.length c2] 27)) 27 #[.slice A' N.ends.length c', .slice A1' N.ids.length c1', .slice A2' N.inputs.length c2']
    simpa using this)
  have e1 : ((N.ends.length : Int) != (N.ends.length : Int)) = false := by simp
  have SI := Lib.hid (fun (xs : List Int) (T T' : Nat → Prop) v v' W (k : IntsR W T v xs) (k' : IntsR W T' v' xs) => (by
    have := sameInts_any v v' xs xs W k k'
    rw [show sameL xs xs = true by simp [sameL]] at this
    exact this : Calls Try.prog 30 #[v, v'] W (RetD W (.bool true))))
  go_enter Try.func8, Try.ntmps8
  go_wp2_with fail
  generalize (w.alloc (.cells #[.slice A N.ends.length c, .slice A1 N.ids.length c1, .slice A2 N.inputs.length c2] 27)).alloc (.cells #[.slice A' N.ends.length c', .slice A1' N.ids.length c1', .slice A2' N.inputs.length c2'] 27) = wb at *
  have k0 := HK0.out.cell
  have k1 := HK1.out.cell
  go_wp2_with (first
    | (go_at_call_of 30 (Value.slice A1 N.ids.length c1); refine (SI.out N.ids _ _ _ _ _ (HI.out.below HB.out) (HI'.out.below HB.out)).mono ?_; rintro e w1 ⟨rfl, m1, rfl⟩)
    | (go_at_call_of 30 (Value.slice A2 N.inputs.length c2); refine (SI.out N.inputs _ _ _ _ _ (HN.out.below (below_drewN HB.out _)) (HN'.out.below (below_drewN HB.out _))).mono ?_; rintro e w2 ⟨rfl, m2, rfl⟩))
  go_loopw [33] (fun x33 wr => ∃ k : Nat, x33 = .int .i64 k ∧ k ≤ N.ends.length ∧ ∃ m, wr = wb.drewN m) (fun x33 _ => N.ends.length - (intOf x33).toNat)
  case atStart => exact ⟨0, rfl, Nat.zero_le _, _, rfl⟩
  case round =>
    obtain ⟨k, rfl, hk, m, rfl⟩ := hrel
    by_cases hlt : k < N.ends.length
    · obtain ⟨b, off, rfl, -, hce⟩ := HX.out (by omega)
      obtain ⟨b', off', rfl, -, hce'⟩ := HX'.out (by omega)
      obtain ⟨ux, hux, hrx⟩ := hce k hlt
      obtain ⟨ux', hux', hrx'⟩ := hce' k hlt
      obtain ⟨R, rc, rfl, hrn, hrm, hrr⟩ := hrx
      obtain ⟨R', rc', rfl, -, -, hrr'⟩ := hrx'
      have HRR := Lib.hid hrr
      have HRR' := Lib.hid hrr'
      unfold maxLen at hrm
      have hb1 := lt_of_cell hux
      have hb2 := lt_of_cell hux'
      have kx : wb.cell? ⟨b, off + k, none⟩ = some (.slice R (gl N.ends k).length rc) := (HB.out.cell (p := ⟨b, off + k, none⟩) hb1).trans hux
      have kx' : wb.cell? ⟨b', off' + k, none⟩ = some (.slice R' (gl N.ends k).length rc') := (HB.out.cell (p := ⟨b', off' + k, none⟩) hb2).trans hux'
      have iv1 : (0 : Int) ≤ (k : Int) := by omega
      have iv2 : (k : Int) < (N.ends.length : Int) := by omega
      have e2 : (((gl N.ends k).length : Int) != ((gl N.ends k).length : Int)) = false := by simp
      clear hce hce' hux hux' hrr hrr' SI
      go_wp2_with fail
      go_quiet (fail)
      go_wp2_with fail
      go_loopw [55] (fun x55 wr => ∃ i : Nat, x55 = .int .i64 i ∧ i ≤ (gl N.ends k).length ∧ ∃ m, wr = wb.drewN m) (fun x55 _ => (gl N.ends k).length - (intOf x55).toNat)
      case atStart => exact ⟨0, rfl, Nat.zero_le _, _, rfl⟩
      case round =>
        obtain ⟨i, rfl, hi, m3, rfl⟩ := hrel
        by_cases hli : i < (gl N.ends k).length
        · obtain ⟨q, o, rfl, -, hq⟩ := HRR.out (by omega)
          obtain ⟨q', o', rfl, -, hq'⟩ := HRR'.out (by omega)
          obtain ⟨h1, h2⟩ := hq i hli
          obtain ⟨h3, h4⟩ := hq' i hli
          have g1 := lt_of_cell h1
          have g2 := lt_of_cell h3
          have j1 := (HB.out.cell (p := ⟨q, o + i * 2, none⟩) g1).trans h1
          have j2 := (HB.out.cell (p := ⟨q, o + i * 2 + 1, none⟩) g1).trans h2
          have j3 := (HB.out.cell (p := ⟨q', o' + i * 2, none⟩) g2).trans h3
          have j4 := (HB.out.cell (p := ⟨q', o' + i * 2 + 1, none⟩) g2).trans h4
          have iw1 : (0 : Int) ≤ (i : Int) := by omega
          have iw2 : (i : Int) < ((gl N.ends k).length : Int) := by omega
          clear hq hq' h1 h2 h3 h4
          go_wp2_with fail
          go_quiet (fail)
          go_wp2_with fail
          refine ⟨⟨i + 1, by go_num, by omega, _, rfl⟩, ?_⟩
          simp [intOf]
          omega
        · obtain rfl : i = (gl N.ends k).length := by omega
          go_wp2_with fail
          refine ⟨⟨k + 1, by go_num, by omega, _, rfl⟩, ?_⟩
          simp [intOf]
          omega
    · obtain rfl : k = N.ends.length := by omega
      go_wp2_with fail
      go_ret
      exact ⟨rfl, below_drewN HB.out _⟩
end Go.Proofs.Ytkbhbbehidhknaa
