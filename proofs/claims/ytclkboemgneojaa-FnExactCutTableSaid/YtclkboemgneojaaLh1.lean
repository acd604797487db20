/- The statements' own helpers: copying slices of numbers, comparing them, counting sizes. -/
import Derived.Test.YtclkboemgneojaaChecked
import Derived.Test.YtclkboemgneojaaMem
namespace Go.Proofs.Ytclkboemgneojaa
open Go.RowKit

theorem int_info : (Try.prog.info? 3).map (fun i => (i.zero, i.size, i.bytes)) = some (some (.int .i64 0), 1, 8) := by kernel_rfl

set_option maxHeartbeats 400000 in
theorem toIntS_any {S : Nat → Prop} (v : Value) (xs : List Int) (w : World) (h : IntsR w S v xs) (hn : xs.length ≤ 2097152) :
    Calls Try.prog 39 #[v] w (RetI w xs) := by
  obtain ⟨A, c, rfl, hnc, hm, hx⟩ := h
  have HX := Lib.hid hx
  clear hx
  have hmk := fun W => Go.run_make_row' (P := Try.prog) 38 3 (.int .i64 0) 8 Try.underlying38 int_info rfl .i64 .i64 xs.length (by omega) (by omega) W
  go_enter Try.func39, Try.ntmps39
  go_wp2
  go_loopw [4] (fun i wr => ∃ k : Nat, k ≤ xs.length ∧ i = .int .i64 k ∧ wr.rowIs w.heap.size 3 xs.length (fun i => if i < k then .int .i64 (gi xs i) else .int .i64 0) ∧ Below w.heap.size w wr)
    (fun i _ => xs.length - (intOf i).toNat)
  case atStart =>
    refine ⟨0, Nat.zero_le _, rfl, ?_, (Below.refl _ _).alloc (Nat.le_refl _) _⟩
    simpa using World.rowIs_made w (.int .i64 0) xs.length 3
  case round =>
    obtain ⟨k, hk, rfl, hrow, hbel⟩ := hrel
    by_cases hlt : k < xs.length
    · obtain ⟨b, off, rfl, -, hc⟩ := HX.out (by omega)
      have hcell : wr.cell? ⟨b, off + k, none⟩ = some (.int .i64 (gi xs k)) := by rw [hbel.cell (by exact lt_of_cell (hc k hlt))]; exact hc k hlt
      have hc2 := hrow.cell hlt
      have hf2 := hrow.frozen k
      have hrow2 := hrow.set k (.int .i64 (gi xs k))
      have hbel2 := hbel.setCell (p := ⟨w.heap.size, k, none⟩) (Nat.le_refl _) (.int .i64 (gi xs k))
      have HH := Lib.hid (And.intro hrow2 hbel2)
      clear hrow2 hbel2 hrow hbel hc hmk
      go_wp2
      go_roundw
      case rel =>
        refine ⟨k + 1, by omega, by go_num, HH.out.1.congr fun i hi => ?_, HH.out.2⟩
        by_cases h1 : i = k
        · subst h1; simp
        · by_cases h2 : i < k
          · simp [h1, h2, show i < k + 1 by omega]
          · simp [h1, h2, show ¬ i < k + 1 by omega]
      case measure => simp [intOf]; omega
    · go_wp2
      go_ret
      exact ⟨_, rfl, OwnI.of_rowIs (hrow.congr fun i hi => by simp [show i < k by omega]) rfl (Nat.le_refl _) (by omega), hbel⟩

/-- equal lists -/
def sameB (xs ys : List Int) : Bool := decide (xs = ys)
theorem sameB_refl (xs : List Int) : sameB xs xs = true := by simp [sameB]

theorem ints_ext {xs ys : List Int} (hl : xs.length = ys.length) (h : ∀ j, j < xs.length → gi xs j = gi ys j) : xs = ys := by
  apply List.ext_getElem hl
  intro i h1 h2
  have := h i h1
  rwa [gi_lt h1, gi_lt h2] at this

set_option maxHeartbeats 400000 in
theorem eqIntS_any {S S' : Nat → Prop} (v u : Value) (xs ys : List Int) (w : World) (h : IntsR w S v xs) (h' : IntsR w S' u ys) :
    Calls Try.prog 41 #[v, u] w (RetD w (.bool (sameB xs ys))) := by
  have hb := h.bound
  obtain ⟨A, c, rfl, hnc, hm, hx⟩ := h
  obtain ⟨A', c', rfl, hnc', hm', hx'⟩ := h'
  have HX := Lib.hid hx
  have HX' := Lib.hid hx'
  clear hx hx'
  by_cases hl : xs.length = ys.length
  · have HL := Lib.hid hl
    have e1 : (((xs.length : Nat) : Int) != ((ys.length : Nat) : Int)) = false := by simp [hl]
    clear hl
    go_enter Try.func41, Try.ntmps41
    go_wp2
    go_loopw [5] (fun i wr => ∃ k : Nat, k ≤ xs.length ∧ i = .int .i64 k ∧ (∀ j, j < k → gi xs j = gi ys j) ∧ ∃ m, wr = w.drewN m)
      (fun i _ => xs.length - (intOf i).toNat)
    case atStart => exact ⟨0, Nat.zero_le _, rfl, fun j hj => absurd hj (Nat.not_lt_zero _), 0, rfl⟩
    case round =>
      obtain ⟨k, hk, rfl, hsame, m, rfl⟩ := hrel
      have HS := Lib.hid hsame
      clear hsame
      by_cases hlt : k < xs.length
      · have hlt' : k < ys.length := by rw [← HL.out]; exact hlt
        obtain ⟨b, off, rfl, -, hc⟩ := HX.out (by omega)
        obtain ⟨b', off', rfl, -, hc'⟩ := HX'.out (by omega)
        have h1 := hc k hlt
        have h2 := hc' k hlt'
        have i1 : (0 : Int) ≤ (k : Int) := by omega
        have i2 : (k : Int) < (xs.length : Int) := by omega
        have i3 : (k : Int) < (ys.length : Int) := by omega
        clear hc hc'
        by_cases he : gi xs k = gi ys k
        · have e2 : (gi xs k != gi ys k) = false := by simp [he]
          have HE := Lib.hid he
          clear he
          go_wp2
          go_quiet (fail)
          go_wp2
          go_roundw
          case rel =>
            refine ⟨k + 1, by omega, by go_num, fun j hj => ?_, _, rfl⟩
            by_cases h1 : j = k
            · subst h1; exact HE.out
            · exact HS.out j (by omega)
          case measure => simp [intOf]; omega
        · have e2 : (gi xs k != gi ys k) = true := by simp [he]
          have HE := Lib.hid he
          clear he
          go_wp2
          go_quiet (fail)
          go_wp2
          go_ret
          have : sameB xs ys = false := by
            simp only [sameB, decide_eq_false_iff_not]
            intro h3; exact HE.out (by rw [h3])
          rw [this]
          exact ⟨rfl, _, World.drewN_drewN _ _ _⟩
      · have hk : k = xs.length := by omega
        have : sameB xs ys = true := by
          simp only [sameB, decide_eq_true_eq]
          exact ints_ext HL.out (fun j hj => HS.out j (by omega))
        have HT := Lib.hid this
        clear this
        go_wp2
        go_ret
        rw [HT.out]
        exact ⟨rfl, _, rfl⟩
  · have e1 : (((xs.length : Nat) : Int) != ((ys.length : Nat) : Int)) = true := by simp; omega
    have : sameB xs ys = false := by
      simp only [sameB, decide_eq_false_iff_not]
      intro h3; exact hl (by rw [h3])
    have HT := Lib.hid this
    clear this hl
    go_enter Try.func41, Try.ntmps41
    go_wp2
    go_ret
    rw [HT.out]
    exact ⟨rfl, 0, rfl⟩
end Go.Proofs.Ytclkboemgneojaa
