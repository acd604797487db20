/- The statements' own helpers on rows of tables: copying, comparing equal ones, sizes. -/
import Derived.Test.YtclkboemgneojaaLh4
import Derived.Test.YtclkboemgneojaaTab
import Derived.Test.YtclkboemgneojaaChecked
namespace Go.Proofs.Ytclkboemgneojaa
open Go.RowKit

set_option maxHeartbeats 400000 in
theorem toRow_any (s : ByteArray) (o : Int) (w : World) :
    Calls Try.prog 128 #[.agg #[.string s, .int .i64 o]] w (RetV w (.agg #[.string s, .int .i64 o])) := by
  go_enter Try.func128, Try.ntmps128
  go_wp2
  refine bodyPost_ret (v := .agg #[.string s, .int .i64 o]) (by simp [results, Try.results128, go_sem]) rfl ⟨rfl, ?_⟩
  exact (((Below.refl _ _).alloc (Nat.le_refl _) _).alloc (by simp) _).alloc (by simp; omega) _

theorem row_info : (Try.prog.info? 84).map (fun i => (i.zero, i.size, i.bytes)) = some (some (.agg #[.string ByteArray.empty, .int .i64 0]), 2, 24) := by kernel_rfl

/-- block g is the rows, and may be written -/
def RowRow (w : World) (g : Nat) (t : TypeId) (rs : List RowT) : Prop :=
  w.rowIs g t (rs.length * 2) (fun i => if i % 2 = 0 then .string (ga rs (i / 2)).1 else .int .i64 (ga rs (i / 2)).2)
theorem RowRow.own {w : World} {g : Nat} {t : TypeId} {rs : List RowT} {B : Nat} (h : RowRow w g t rs) (hm : rs.length ≤ maxLen) (hB : B ≤ g) : OwnG encR t w B (.slice (some ⟨g, 0, none⟩) rs.length rs.length) rs := by
  obtain ⟨c, hc, hs, hf⟩ := h
  refine ⟨encR.cells_length rs, .inr ⟨g, rs.length, c, rfl, hB, hc, Nat.le_refl _, hm, by rw [hs]; rfl, ?_⟩⟩
  apply List.ext_getElem?
  intro i
  have hk : encR.k = 2 := rfl
  by_cases hi : i < rs.length * 2
  · rw [List.getElem?_take_of_lt (by rw [hk]; exact hi)]
    have h1 := encR.cells_get (xs := rs) (j := i / 2) (i := i % 2) (by omega) (by rw [hk]; omega)
    rw [hk, show i / 2 * 2 + i % 2 = i by omega] at h1
    rw [h1]
    have h2 := hf i hi
    rw [Array.getElem?_toList, h2]
    rcases Nat.mod_two_eq_zero_or_one i with h | h <;> simp [h, encR]
  · rw [List.getElem?_eq_none (by simp [hk]; omega), List.getElem?_eq_none (by rw [encR.cells_length, hk]; omega)]
theorem rowIs_madeRows (w : World) (n : Nat) (t : TypeId) : (w.alloc (.cells (madeCells #[.string ByteArray.empty, .int .i64 0] (n * 2)) t)).rowIs w.heap.size t (n * 2) (fun i => if i % 2 = 0 then .string ByteArray.empty else .int .i64 0) := by
  have := World.rowIs_alloc w (madeCells #[.string ByteArray.empty, .int .i64 0] (n * 2)) t (fun i => if i % 2 = 0 then .string ByteArray.empty else .int .i64 0) (by
    intro i hi
    have hi' : i < n * 2 := by simpa [madeCells] using hi
    rcases Nat.mod_two_eq_zero_or_one i with h | h <;> simp [madeCells, hi', h])
  simpa [madeCells] using this

/-- a slice of rows that the call has made -/
def RetRw (w : World) (rs : List RowT) (e : Ending) (w' : World) : Prop :=
  ∃ A c, e = .returned (.slice A rs.length c) ∧ OwnG encR 84 w' w.heap.size (.slice A rs.length c) rs ∧ Below w.heap.size w w'

set_option maxRecDepth 100000 in
set_option maxHeartbeats 1000000 in
theorem toRowS_any {S : Nat → Prop} (v : Value) (xs : List RowT) (w : World) (h : SlR encR w S v xs) (hn : xs.length ≤ 2097152) :
    Calls Try.prog 52 #[v] w (RetRw w xs) := by
  obtain ⟨A, c, rfl, hnc, hm, hx⟩ := h
  have HX := Lib.hid hx
  clear hx
  have hmk := fun W => run_make_rowN (P := Try.prog) 26 84 (.agg #[.string ByteArray.empty, .int .i64 0]) 2 24 Try.underlying26 row_info .i64 .i64 xs.length (by omega) (by omega) W
  simp only [Value.cells] at hmk
  go_enter Try.func52, Try.ntmps52
  go_wp2
  go_loopw [4] (fun i wr => ∃ k : Nat, k ≤ xs.length ∧ i = .int .i64 k ∧ wr.rowIs w.heap.size 84 (xs.length * 2) (fun i => if i < k * 2 then (if i % 2 = 0 then .string (ga xs (i / 2)).1 else .int .i64 (ga xs (i / 2)).2) else (if i % 2 = 0 then .string ByteArray.empty else .int .i64 0)) ∧ Below w.heap.size w wr)
    (fun i _ => xs.length - (intOf i).toNat)
  case atStart =>
    refine ⟨0, Nat.zero_le _, rfl, ?_, (Below.refl _ _).alloc (Nat.le_refl _) _⟩
    simpa using rowIs_madeRows w xs.length 84
  case round =>
    obtain ⟨k, hk, rfl, hrow, hbel⟩ := hrel
    by_cases hlt : k < xs.length
    · obtain ⟨b, off, rfl, -, hlb, hc⟩ := HX.out (by omega)
      have hc0 := hc k hlt 0 (by decide)
      have hc1 := hc k hlt 1 (by decide)
      have hcell : wr.cell? ⟨b, off + k * 2, none⟩ = some (.string (ga xs k).1) := by rw [hbel.cell (by exact hlb)]; simpa [encR] using hc0
      have hcell' : wr.cell? ⟨b, off + k * 2 + 1, none⟩ = some (.int .i64 (ga xs k).2) := by rw [hbel.cell (by exact hlb)]; simpa [encR] using hc1
      have HR := Lib.hid hrow
      have HB := Lib.hid hbel
      clear hbel hc hc0 hc1 hmk hrow
      go_wp2_with fail
      refine (toRow_any _ _ _).mono ?_
      rintro e w1 ⟨rfl, hb1⟩
      have HB1 := Lib.hid (Below.thenB HB.out hb1 HB.out.size)
      have hrow1 : w1.rowIs w.heap.size 84 (xs.length * 2) _ := HR.out.of_block (hb1.block _ HR.out.lt)
      have hc2 := hrow1.cell (i := k * 2) (by omega)
      have hc3 := hrow1.cell (i := k * 2 + 1) (by omega)
      have hf2 := hrow1.frozen (k * 2)
      have hf3 := hrow1.frozen (k * 2 + 1)
      have hrow2 := (hrow1.set (k * 2) (.string (ga xs k).1)).set (k * 2 + 1) (.int .i64 (ga xs k).2)
      have HH := Lib.hid hrow2
      simp only [show ¬ k * 2 < k * 2 by omega, show ¬ k * 2 + 1 < k * 2 by omega, show k * 2 % 2 = 0 by omega, show ¬ (k * 2 + 1) % 2 = 0 by omega, if_false, if_true] at hc2 hc3
      clear hrow2 hrow1 hb1
      go_wp2
      have HB2 := Lib.hid ((HB1.out.setCell (p := ⟨w.heap.size, k * 2, none⟩) (Nat.le_refl _) (.string (ga xs k).1)).setCell (p := ⟨w.heap.size, k * 2 + 1, none⟩) (Nat.le_refl _) (.int .i64 (ga xs k).2))
      go_roundw
      case rel =>
        refine ⟨k + 1, by omega, by go_num, HH.out.congr fun i hi => ?_, HB2.out⟩
        by_cases h1 : i = k * 2 + 1
        · subst h1
          simp [show (k * 2 + 1) % 2 = 1 by omega, show (k * 2 + 1) / 2 = k by omega, show k * 2 + 1 < (k + 1) * 2 by omega]
        · by_cases h2 : i = k * 2
          · subst h2
            simp [show k * 2 < (k + 1) * 2 by omega]
          · by_cases h3 : i < k * 2
            · simp [h1, h2, h3, show i < (k + 1) * 2 by omega]
            · simp [h1, h2, h3, show ¬ i < (k + 1) * 2 by omega]
      case measure => simp [intOf]; omega
    · go_wp2
      go_ret
      exact ⟨_, _, rfl, RowRow.own (hrow.congr fun i hi => by simp [show i < k * 2 by omega]) (by unfold maxLen; omega) (Nat.le_refl _), hbel⟩

set_option maxRecDepth 100000 in
set_option maxHeartbeats 800000 in
theorem toTable_any {S : Nat → Prop} (v : Value) (D : Int) (xs : List RowT) (w : World) (h : SlR encR w S v xs) (hn : xs.length ≤ 2097152) :
    Calls Try.prog 9 #[.agg #[.int .i64 D, v]] w fun e w' => ∃ A c, e = .returned (.agg #[.int .i64 D, .slice A xs.length c]) ∧ OwnG encR 84 w' w.heap.size (.slice A xs.length c) xs ∧ Below w.heap.size w w' := by
  have HR := Lib.hid h
  obtain ⟨A, c, rfl, hnc, hm, hx⟩ := h
  clear hx
  have HB0 := Lib.hid ((Below.refl w.heap.size w).alloc (Nat.le_refl _) (.cells #[.int .i64 D, .slice A xs.length c] 24))
  go_enter Try.func9, Try.ntmps9
  go_wp2_with fail
  have HB0' := Lib.hid ((((Below.refl w.heap.size w).alloc (Nat.le_refl _) (.cells #[.int .i64 D, .slice A xs.length c] 24)).alloc (by simp) (.cells #[.int .i64 0, .slice none 0 0] 28)).alloc (by simp; omega) (.cells #[.int .i64 D, .slice none 0 0] 28))
  have HK1 : Hid (Blk (((w.alloc (.cells #[.int .i64 D, .slice A xs.length c] 24)).alloc (.cells #[.int .i64 0, .slice none 0 0] 28)).alloc (.cells #[.int .i64 D, .slice none 0 0] 28)) (w.heap.size + 1) 28 #[.int .i64 0, .slice none 0 0]) := Lib.hid (by
    refine Blk.alloc ?_ _
    have := Blk.new (w.alloc (.cells #[.int .i64 D, .slice A xs.length c] 24)) 28 #[.int .i64 0, .slice none 0 0]
    simpa using this)
  have HK2 : Hid (Blk (((w.alloc (.cells #[.int .i64 D, .slice A xs.length c] 24)).alloc (.cells #[.int .i64 0, .slice none 0 0] 28)).alloc (.cells #[.int .i64 D, .slice none 0 0] 28)) (w.heap.size + 1 + 1) 28 #[.int .i64 D, .slice none 0 0]) := Lib.hid (by
    have := Blk.new ((w.alloc (.cells #[.int .i64 D, .slice A xs.length c] 24)).alloc (.cells #[.int .i64 0, .slice none 0 0] 28)) 28 #[.int .i64 D, .slice none 0 0]
    simpa using this)
  have hsz : w.heap.size + 3 = (((w.alloc (.cells #[.int .i64 D, .slice A xs.length c] 24)).alloc (.cells #[.int .i64 0, .slice none 0 0] 28)).alloc (.cells #[.int .i64 D, .slice none 0 0] 28)).heap.size := by simp
  have HSZ := Lib.hid hsz
  clear hsz
  generalize (((w.alloc (.cells #[.int .i64 D, .slice A xs.length c] 24)).alloc (.cells #[.int .i64 0, .slice none 0 0] 28)).alloc (.cells #[.int .i64 D, .slice none 0 0] 28)) = w3 at *
  refine (toRowS_any _ xs w3 (HR.out.below HB0'.out) hn).mono ?_
  rintro e w4 ⟨A4, c4, rfl, ho4, hb4⟩
  have HO4 := Lib.hid ho4
  have hk1 := HK1.out.below hb4
  have hk2 := HK2.out.below hb4
  have HB4 := Lib.hid (Below.then_ HB0'.out hb4)
  have kc1 := hk1.cell
  have kf1 := hk1.free
  have kc2 := hk2.cell
  have kf2 := hk2.free
  have hlt : w.heap.size + 1 < w4.heap.size := hk1.lt
  have hcR := (((hk1.far (p := ⟨w.heap.size + 1 + 1, 1, none⟩) (by simp) (.slice A4 xs.length c4)).put 0 (.int .i64 D)).put 1 (.slice A4 xs.length c4)).cell
  have hcS := (hk2.put 1 (.slice A4 xs.length c4)).cell
  have hcT := (hk1.far (p := ⟨w.heap.size + 1 + 1, 1, none⟩) (by simp) (.slice A4 xs.length c4)).cell
  have hcU := (hk1.far (p := ⟨w.heap.size + 1 + 1, 1, none⟩) (by simp) (.slice A4 xs.length c4)).free
  clear ho4 hb4 hk1 hk2
  go_wp2_with fail
  refine bodyPost_ret (v := .agg #[.int .i64 D, .slice A4 xs.length c4]) (by simp [results, Try.results9, go_sem, hcR]) rfl ?_
  exact ⟨A4, c4, rfl, ((HO4.out.mono (by have := HSZ.out; omega)).keepB (fun b hb => by
    have := HO4.out.lt b hb
    have h3 := HSZ.out
    repeat rw [Below.heap_setCell _ _ _ _ (by simp; omega)])), ((HB4.out.setCell (by simp; omega) _).setCell (by simp) _).setCell (by simp) _⟩

set_option maxRecDepth 100000 in
set_option maxHeartbeats 800000 in
theorem eqRow_same (s : ByteArray) (o : Int) (w : World) :
    Calls Try.prog 139 #[.agg #[.string s, .int .i64 o], .agg #[.string s, .int .i64 o]] w (RetV w (.bool true)) := by
  have e1 : (o != o) = false := by simp
  go_enter Try.func139, Try.ntmps139
  go_wp2
  go_ret
  exact ⟨rfl, ((Below.refl _ _).alloc (Nat.le_refl _) _).alloc (by simp) _⟩

set_option maxRecDepth 100000 in
set_option maxHeartbeats 800000 in
theorem eqRowS_same {S S' : Nat → Prop} (v u : Value) (xs : List RowT) (w : World) (h : SlR encR w S v xs) (h' : SlR encR w S' u xs) :
    Calls Try.prog 58 #[v, u] w (RetV w (.bool true)) := by
  obtain ⟨A, c, rfl, hnc, hm, hx⟩ := h
  obtain ⟨A', c', rfl, hnc', hm', hx'⟩ := h'
  unfold maxLen at hm hm'
  have HX := Lib.hid hx
  have HX' := Lib.hid hx'
  clear hx hx'
  have e1 : (((xs.length : Nat) : Int) != ((xs.length : Nat) : Int)) = false := by simp
  go_enter Try.func58, Try.ntmps58
  go_wp2
  go_loopw [5] (fun i wr => ∃ k : Nat, k ≤ xs.length ∧ i = .int .i64 k ∧ Below w.heap.size w wr) (fun i _ => xs.length - (intOf i).toNat)
  case atStart => exact ⟨0, Nat.zero_le _, rfl, Below.refl _ _⟩
  case round =>
    obtain ⟨k, hk, rfl, hbel⟩ := hrel
    by_cases hlt : k < xs.length
    · obtain ⟨b, off, rfl, -, hlb, hc⟩ := HX.out (by omega)
      obtain ⟨b', off', rfl, -, hlb', hc'⟩ := HX'.out (by omega)
      have h1 : wr.cell? ⟨b, off + k * 2, none⟩ = some (.string (ga xs k).1) := by rw [hbel.cell (by exact hlb)]; simpa [encR] using hc k hlt 0 (by decide)
      have h2 : wr.cell? ⟨b, off + k * 2 + 1, none⟩ = some (.int .i64 (ga xs k).2) := by rw [hbel.cell (by exact hlb)]; simpa [encR] using hc k hlt 1 (by decide)
      have h3 : wr.cell? ⟨b', off' + k * 2, none⟩ = some (.string (ga xs k).1) := by rw [hbel.cell (by exact hlb')]; simpa [encR] using hc' k hlt 0 (by decide)
      have h4 : wr.cell? ⟨b', off' + k * 2 + 1, none⟩ = some (.int .i64 (ga xs k).2) := by rw [hbel.cell (by exact hlb')]; simpa [encR] using hc' k hlt 1 (by decide)
      have i1 : (0 : Int) ≤ (k : Int) := by omega
      have i2 : (k : Int) < (xs.length : Int) := by omega
      have HB := Lib.hid hbel.drew
      clear hc hc' hbel
      go_wp2
      go_still_tail 8, (by kernel_rfl)
      change wpList _ _ _ _ _ wr.drew
      generalize wr.drew = w2 at HB ⊢
      go_wp2_with (go_at_call 139; refine (eqRow_same _ _ _).mono ?_; rintro e w3 ⟨rfl, hb3⟩; have HB3 := Lib.hid (Below.thenB HB.out hb3 HB.out.size); clear hb3)
      go_roundw
      case rel => exact ⟨k + 1, by omega, by go_num, HB3.out⟩
      case measure => simp [intOf]; omega
    · go_wp2
      go_ret
      exact ⟨rfl, hbel⟩

set_option maxRecDepth 100000 in
set_option maxHeartbeats 800000 in
theorem eqTable_same {S S' : Nat → Prop} (v u : Value) (D : Int) (xs : List RowT) (w : World) (h : SlR encR w S v xs) (h' : SlR encR w S' u xs) :
    Calls Try.prog 11 #[.agg #[.int .i64 D, v], .agg #[.int .i64 D, u]] w (RetV w (.bool true)) := by
  have HR := Lib.hid h
  have HR' := Lib.hid h'
  obtain ⟨A, c, rfl, hnc, hm, hx⟩ := h
  obtain ⟨A', c', rfl, hnc', hm', hx'⟩ := h'
  clear hx hx'
  have e1 : (D != D) = false := by simp
  have HB0 := Lib.hid (((Below.refl w.heap.size w).alloc (Nat.le_refl _) (.cells #[.int .i64 D, .slice A xs.length c] 28)).alloc (by simp) (.cells #[.int .i64 D, .slice A' xs.length c'] 28))
  go_enter Try.func11, Try.ntmps11
  go_wp2_with fail
  refine (eqRowS_same _ _ xs _ (HR.out.below HB0.out) (HR'.out.below HB0.out)).mono ?_
  rintro e w1 ⟨rfl, hb1⟩
  have HB1 := Lib.hid (Below.then_ HB0.out hb1)
  clear hb1
  go_wp2_with fail
  go_ret
  exact ⟨rfl, HB1.out⟩
end Go.Proofs.Ytclkboemgneojaa
