/- The statements' own helpers on rows of tables: sizes, marks and marks that still stand. -/
import Derived.Test.YtclkboemgneojaaLr1
import Derived.Test.YtclkboemgneojaaSx1
import Derived.Test.YtclkboemgneojaaMt4
namespace Go.Proofs.Ytclkboemgneojaa
open Go.RowKit
attribute [local go_sem] strB_size BW.cell BW.frozen

/-- what is left of a size -/
def RetSz (w : World) (left : Int) (P : Prop) (e : Ending) (w' : World) : Prop := ∃ r : Int, e = .returned (.int .i64 r) ∧ -1 ≤ r ∧ r ≤ left ∧ (0 ≤ r → P) ∧ Below w.heap.size w w'

set_option maxHeartbeats 800000 in
theorem szRow_any (s : ByteArray) (o left : Int) (w : World) (h0 : 0 ≤ left) (h1 : left ≤ 1048576) (hs : s.size ≤ 9223372036854775807) :
    Calls Try.prog 123 #[.agg #[.string s, .int .i64 o], .int .i64 left] w (RetSz w left True) := by
  have HB := Lib.hid ((Below.refl w.heap.size w).alloc (Nat.le_refl _) (.cells #[.string s, .int .i64 o] 153))
  by_cases h : left - (s.size : Int) < 0
  · go_enter Try.func123, Try.ntmps123
    go_wp2_with fail
    go_ret
    exact ⟨-1, rfl, by omega, by omega, fun h => by omega, HB.out⟩
  · go_enter Try.func123, Try.ntmps123
    go_wp2_with fail
    go_ret
    exact ⟨_, rfl, by omega, by omega, fun _ => trivial, HB.out⟩

set_option maxRecDepth 100000 in
set_option maxHeartbeats 1000000 in
theorem szRowS_any {S : Nat → Prop} (v : Value) (rows : List RowT) (left : Int) (w : World) (h : SlR encR w S v rows) (h0 : 0 ≤ left) (h1 : left ≤ 1048576) (hs : ∀ j, j < rows.length → (ga rows j).1.size ≤ 9223372036854775807) :
    Calls Try.prog 46 #[v, .int .i64 left] w (RetSz w left ((rows.length : Int) ≤ left)) := by
  obtain ⟨A, c, rfl, hnc, hm, hx⟩ := h
  unfold maxLen at hm
  have HX := Lib.hid hx
  have HS := Lib.hid hs
  clear hx hs
  by_cases hl : left - (rows.length : Int) < 0
  · go_enter Try.func46, Try.ntmps46
    go_wp2_with fail
    go_ret
    exact ⟨-1, rfl, by omega, by omega, fun h => by omega, Below.refl _ _⟩
  go_enter Try.func46, Try.ntmps46
  go_wp2_with fail
  go_loopw [1, 5] (fun x1 x5 wr => ∃ (j : Nat) (r : Int), j ≤ rows.length ∧ x5 = .int .i64 j ∧ x1 = .int .i64 r ∧ 0 ≤ r ∧ r ≤ left - rows.length ∧ Below w.heap.size w wr) (fun _ x5 _ => rows.length - (intOf x5).toNat)
  case atStart => exact ⟨0, _, Nat.zero_le _, rfl, rfl, by omega, by omega, Below.refl _ _⟩
  case round =>
    obtain ⟨j, r, hj, rfl, rfl, hr0, hr1, hbel⟩ := hrel
    have HB := Lib.hid hbel
    by_cases hlt : j < rows.length
    · obtain ⟨b, off, rfl, -, hlb, hc⟩ := HX.out (by omega)
      have c0 : wr.cell? ⟨b, off + j * 2, none⟩ = some (.string (ga rows j).1) := by rw [hbel.cell (by exact hlb)]; simpa [encR] using hc j hlt 0 (by decide)
      have c1 : wr.cell? ⟨b, off + j * 2 + 1, none⟩ = some (.int .i64 (ga rows j).2) := by rw [hbel.cell (by exact hlb)]; simpa [encR] using hc j hlt 1 (by decide)
      have i0 : (0 : Int) ≤ (j : Int) := by omega
      have i1 : (j : Int) < (rows.length : Int) := by omega
      have hsz := HS.out j hlt
      clear hc hbel
      go_wp2_with fail
      refine (szRow_any _ _ r wr hr0 (by omega) hsz).mono ?_
      rintro e w1 ⟨r1, rfl, hr2, hr3, -, hb1⟩
      have HB1 := Lib.hid (Below.thenB HB.out hb1 HB.out.size)
      clear hb1
      by_cases hneg : r1 < 0
      · go_wp2_with fail
        go_ret
        exact ⟨-1, rfl, by omega, by omega, fun h => by omega, HB1.out⟩
      · go_wp2_with fail
        go_roundw
        case rel => exact ⟨j + 1, r1, by omega, by go_num, rfl, by omega, by omega, HB1.out⟩
        case measure => simp [intOf]; omega
    · go_wp2_with fail
      go_ret
      exact ⟨r, rfl, by omega, by omega, fun _ => by omega, HB.out⟩

set_option maxRecDepth 100000 in
set_option maxHeartbeats 1000000 in
theorem szTable_any {S : Nat → Prop} (v : Value) (D : Int) (rows : List RowT) (left : Int) (w : World) (h : SlR encR w S v rows) (h0 : 0 ≤ left) (h1 : left ≤ 1048576) (hs : ∀ j, j < rows.length → (ga rows j).1.size ≤ 9223372036854775807) :
    Calls Try.prog 7 #[.agg #[.int .i64 D, v], .int .i64 left] w (RetSz w left ((rows.length : Int) ≤ left)) := by
  have HR := Lib.hid h
  obtain ⟨A, c, rfl, hnc, hm, hx⟩ := h
  have HS := Lib.hid hs
  clear hx hs
  have HB := Lib.hid ((Below.refl w.heap.size w).alloc (Nat.le_refl _) (.cells #[.int .i64 D, .slice A rows.length c] 24))
  go_enter Try.func7, Try.ntmps7
  go_wp2_with fail
  refine (szRowS_any _ rows left _ (HR.out.below HB.out) h0 h1 HS.out).mono ?_
  rintro e w1 ⟨r1, rfl, hr2, hr3, hp, hb1⟩
  have HP := Lib.hid hp
  have HB1 := Lib.hid (HB.out.trans (hb1.mono (by simp)))
  clear hp hb1
  by_cases hneg : r1 < 0
  · go_wp2_with fail
    go_ret
    exact ⟨-1, rfl, by omega, by omega, fun h => by omega, HB1.out⟩
  · go_wp2_with fail
    go_ret
    exact ⟨r1, rfl, by omega, by omega, HP.out, HB1.out⟩

/-- the digits of a number ahead of what stands -/
def digsF : Nat → Nat → List UInt8 → List UInt8
  | 0, _, acc => acc
  | f + 1, k, acc => if k = 0 then acc else digsF f (k / 10) (dch (k % 10) :: acc)
def digs (k : Nat) (acc : List UInt8) : List UInt8 := digsF k k acc
theorem digsF_more : ∀ (f g k : Nat) (acc : List UInt8), k ≤ f → k ≤ g → digsF f k acc = digsF g k acc
  | 0, 0, _, _, _, _ => rfl
  | 0, g + 1, k, acc, h, _ => by
    obtain rfl : k = 0 := by omega
    simp [digsF]
  | f + 1, 0, k, acc, _, h => by
    obtain rfl : k = 0 := by omega
    simp [digsF]
  | f + 1, g + 1, k, acc, h1, h2 => by
    simp only [digsF]
    by_cases hk : k = 0
    · simp [hk]
    · simp only [hk, if_false]
      exact digsF_more f g (k / 10) _ (by omega) (by omega)
theorem digs_zero (acc : List UInt8) : digs 0 acc = acc := rfl
theorem digs_pos {k : Nat} (h : 0 < k) (acc : List UInt8) : digs k acc = digs (k / 10) (dch (k % 10) :: acc) := by
  obtain ⟨n, rfl⟩ : ∃ n, k = n + 1 := ⟨k - 1, by omega⟩
  unfold digs
  rw [digsF, if_neg (by omega)]
  exact digsF_more _ _ _ _ (by omega) (by omega)
/-- the text that marks a number -/
def mtx (k : Nat) : ByteArray := strB (109 :: digs k [])

set_option maxRecDepth 100000 in
set_option maxHeartbeats 1000000 in
theorem markText_any (k : Nat) (w : World) (h0 : 0 < k) (h1 : k ≤ 8388608) : Calls Try.prog 140 #[.int .i64 (k : Nat)] w (RetV w (.string (mtx k))) := by
  have e1 : ¬ (k : Int) ≤ 0 := by omega
  go_enter Try.func140, Try.ntmps140
  go_wp2_with fail
  go_loopw [0, 3] (fun x0 x3 wr => ∃ (m : Nat) (acc : List UInt8), m ≤ k ∧ x0 = .int .i64 m ∧ x3 = .string (strB acc) ∧ digs k [] = digs m acc ∧ acc.length + m ≤ k ∧ Below w.heap.size w wr) (fun x0 _ _ => (intOf x0).toNat)
  case atStart => exact ⟨k, [], Nat.le_refl _, rfl, rfl, rfl, by simp, Below.refl _ _⟩
  case round =>
    obtain ⟨m, acc, hm, rfl, rfl, hd, hl, hbel⟩ := hrel
    have HD := Lib.hid hd
    have HB := Lib.hid hbel
    have HBA := Lib.hid (hbel.alloc hbel.size (.cells #[.int .u8 (48 + (m : Int) % 10)] 5))
    clear hd hbel
    by_cases hlt : 0 < m
    · have hd10 : m % 10 ≤ 9 := by omega
      have hdd := dch_nat hd10
      have hcv : (convert 35 9 (.slice (some ⟨wr.heap.size, 0, none⟩) 1 1)).run Try.prog (wr.alloc (.cells #[.int .u8 (48 + (m : Int) % 10)] 5)) = .ok (.string (strB [dch (m % 10)])) (wr.alloc (.cells #[.int .u8 (48 + (m : Int) % 10)] 5)) :=
        run_convert_bytes_back _ _ _ _ _ _ [dch (m % 10)] Try.underlying35 Try.underlying5 Try.underlying9 (fun j hj => by
          obtain rfl : j = 0 := by simpa using hj
          rw [addr_add, (Blk.new wr 5 #[.int .u8 (48 + (m : Int) % 10)]).cell]
          simp [hdd])
      have b1 : 0 ≤ (m : Int) % 10 := by omega
      have b2 : (m : Int) % 10 ≤ 9 := by omega
      have hal : acc.length ≤ 8388608 := by omega
      clear hdd
      go_wp2_with fail
      go_roundw
      case rel => exact ⟨m / 10, dch (m % 10) :: acc, by omega, congrArg (Value.int .i64) (by omega), by rw [strB_app]; rfl, by rw [HD.out, digs_pos hlt], by simp; omega, HBA.out⟩
      case measure => simp [intOf]; omega
    · obtain rfl : m = 0 := by omega
      have HE : Hid (mtx k = strB ([109] ++ acc)) := Lib.hid (by rw [mtx, HD.out, digs_zero]; rfl)
      go_wp2_with fail
      go_ret
      refine ⟨?_, HB.out⟩
      rw [HE.out, ← strB_app [109] acc]
      rfl

/-- the marks k, k + 1, .. in rows -/
def mkR (k n : Nat) : List RowT := (List.range n).map fun i => (mtx (k + 2 * i), ((k + 2 * i + 1 : Nat) : Int))
theorem mkR_len (k n : Nat) : (mkR k n).length = n := by simp [mkR]
theorem mkR_get {k n j : Nat} (h : j < n) : ga (mkR k n) j = (mtx (k + 2 * j), ((k + 2 * j + 1 : Nat) : Int)) := by simp [mkR, ga, h]
theorem mkR_step (k : Nat) (rows : List RowT) {j : Nat} (h : j < rows.length) : (mkR k j ++ rows.drop j).set j (mtx (k + 2 * j), ((k + 2 * j + 1 : Nat) : Int)) = mkR k (j + 1) ++ rows.drop (j + 1) := by
  have e : (mkR k j ++ rows.drop j).set j (mtx (k + 2 * j), ((k + 2 * j + 1 : Nat) : Int)) = mkR k j ++ (rows.drop j).set 0 (mtx (k + 2 * j), ((k + 2 * j + 1 : Nat) : Int)) := by
    rw [List.set_append_right _ _ (by rw [mkR_len]; exact Nat.le_refl _)]
    simp [mkR_len]
  have e2 : (rows.drop j).set 0 (mtx (k + 2 * j), ((k + 2 * j + 1 : Nat) : Int)) = (mtx (k + 2 * j), ((k + 2 * j + 1 : Nat) : Int)) :: rows.drop (j + 1) := by
    rw [List.drop_eq_getElem_cons h]; rfl
  rw [e, e2]
  simp [mkR, List.range_succ]
def RetMr (w : World) (B : Nat) (v : Value) (k n : Nat) (e : Ending) (w' : World) : Prop := e = .returned (.int .i64 ((k + 2 * n : Nat) : Int)) ∧ OwnG encR 84 w' B v (mkR k n) ∧ w.grownBy w' v.ownBlock

set_option maxRecDepth 100000 in
set_option maxHeartbeats 2000000 in
theorem markRowS_any (B : Nat) (v : Value) (rows : List RowT) (k : Nat) (w : World) (h : OwnG encR 84 w B v rows) (h0 : 0 < k) (h1 : k + 2 * rows.length ≤ 8388608) :
    Calls Try.prog 59 #[v, .int .i64 (k : Nat)] w (RetMr w B v k rows.length) := by
  by_cases hp : 0 < rows.length
  · obtain ⟨g, cap, rfl, hB, hgl, hc1, hc2⟩ := h.addr hp
    have HO := Lib.hid h
    clear h
    obtain ⟨n, hnn⟩ : ∃ n, n = rows.length := ⟨_, rfl⟩
    rw [← hnn] at hp h1 hc1 HO ⊢
    have HN := Lib.hid hnn
    clear hnn
    go_enter Try.func59, Try.ntmps59
    go_wp2_with fail
    go_loopw [1, 5] (fun vk vi wr => ∃ j : Nat, j ≤ n ∧ vi = .int .i64 j ∧ vk = .int .i64 ((k + 2 * j : Nat) : Int) ∧ OwnG encR 84 wr B (.slice (some ⟨g, 0, none⟩) n cap) (mkR k j ++ rows.drop j) ∧ w.grownBy wr (some g)) (fun _ vi _ => n - (intOf vi).toNat)
    case atStart => exact ⟨0, Nat.zero_le _, rfl, rfl, by simpa [mkR] using HO.out, World.grownBy.refl _ _⟩
    case round =>
      obtain ⟨j, hj, rfl, rfl, hown, hgr⟩ := hrel
      have hlen : (mkR k j ++ rows.drop j).length = n := by have := HN.out; simp [mkR_len]; omega
      have HLN := Lib.hid hlen
      have HOW := Lib.hid hown
      have HGR := Lib.hid hgr
      have hzg : g < wr.heap.size := by have := hgr.size; omega
      clear hlen hown hgr
      by_cases hlt : j < n
      · obtain ⟨m, hm⟩ : ∃ m, m = k + 2 * j := ⟨_, rfl⟩
        have HM := Lib.hid hm
        have i0 : (0 : Int) ≤ (j : Int) := by omega
        have i1 : (j : Int) < (n : Int) := by omega
        have hmb : 0 < m ∧ m ≤ 8388608 := by omega
        rw [← hm]
        clear hm
        go_wp2_with fail
        refine (markText_any m wr hmb.1 hmb.2).mono ?_
        rintro e wb ⟨rfl, hbb⟩
        have HOB := Lib.hid (HOW.out.below hbb)
        have HGB : Hid (w.grownBy wb (some g)) := Lib.hid (HGR.out.trans ⟨hbb.os, hbb.tape, hbb.output, hbb.size, fun b hb _ => hbb.block b hb⟩)
        obtain ⟨c0, c1⟩ := own_at HOB.out (j := j) (by have := HLN.out; omega) rfl
        have hfr := own_free HOB.out
        have HO1 : Hid (OwnG encR 84 ((wb.setCell ⟨g, j * 2, none⟩ (.string (mtx m))).setCell ⟨g, j * 2 + 1, none⟩ (.int .i64 ((m + 1 : Nat) : Int))) B (.slice (some ⟨g, 0, none⟩) n cap) (mkR k (j + 1) ++ rows.drop (j + 1))) := Lib.hid (by
          have := HOB.out.set2 (k := j) (by have := HLN.out; omega) (mtx (k + 2 * j), ((k + 2 * j + 1 : Nat) : Int))
          rw [mkR_step k rows (by have := HN.out; omega)] at this
          rw [HM.out]; exact this)
        clear hbb
        go_wp2_with fail
        go_roundw
        case rel =>
          have hmm := HM.out
          refine ⟨j + 1, by omega, by go_num, congrArg (Value.int .i64) (by omega), ?_, grown_put (grown_put HGB.out _ _) _ _⟩
          first
            | exact HO1.out
            | (have := HO1.out; rw [Int.natCast_add] at this; exact this)
        case measure => simp [intOf]; omega
      · obtain rfl : j = n := by omega
        go_wp2_with fail
        go_ret
        refine ⟨rfl, ?_, HGR.out⟩
        have := HOW.out
        rwa [List.drop_eq_nil_of_le (by have := HN.out; omega), List.append_nil] at this
  · obtain ⟨A, c, rfl⟩ := h.shape
    obtain rfl : rows = [] := List.length_eq_zero_iff.1 (by omega)
    have HO := Lib.hid h
    clear h
    go_enter Try.func59, Try.ntmps59
    simp only [List.length_nil] at *
    go_wp2
    go_loopw [1, 5] (fun vk vi wr => vi = .int .i64 0 ∧ vk = .int .i64 k ∧ wr = w) (fun _ _ _ => 0)
    case atStart => exact ⟨rfl, rfl, rfl⟩
    case round =>
      obtain ⟨rfl, rfl, rfl⟩ := hrel
      go_wp2
      go_ret
      exact ⟨by simp, by simpa [mkR] using HO.out, World.grownBy.refl _ _⟩

set_option maxRecDepth 100000 in
set_option maxHeartbeats 2000000 in
theorem heldRowS_any {S : Nat → Prop} (v : Value) (k n : Nat) (w : World) (h : SlR encR w S v (mkR k n)) (h0 : 0 < k) (h1 : k + 2 * n ≤ 8388608) :
    Calls Try.prog 60 #[v, .int .i64 (k : Nat)] w (RetV w (.int .i64 ((k + 2 * n : Nat) : Int))) := by
  obtain ⟨A, c, rfl, hnc, hm, hx⟩ := h
  rw [mkR_len] at *
  have HX := Lib.hid hx
  clear hx hnc hm
  go_enter Try.func60, Try.ntmps60
  go_wp2_with fail
  go_loopw [1, 5] (fun vk vi wr => ∃ j : Nat, j ≤ n ∧ vi = .int .i64 j ∧ vk = .int .i64 ((k + 2 * j : Nat) : Int) ∧ Below w.heap.size w wr) (fun _ vi _ => n - (intOf vi).toNat)
  case atStart => exact ⟨0, Nat.zero_le _, rfl, rfl, Below.refl _ _⟩
  case round =>
    obtain ⟨j, hj, rfl, rfl, hbel⟩ := hrel
    have HB := Lib.hid hbel
    by_cases hlt : j < n
    · obtain ⟨b, off, rfl, -, hlb, hc⟩ := HX.out (by omega)
      obtain ⟨m, hm⟩ : ∃ m, m = k + 2 * j := ⟨_, rfl⟩
      have d0 : w.cell? ⟨b, off + j * 2, none⟩ = some (.string (mtx m)) := by have := hc j hlt 0 (by decide); rw [mkR_get hlt] at this; rw [hm]; simpa [encR] using this
      have d1 : w.cell? ⟨b, off + j * 2 + 1, none⟩ = some (.int .i64 ((m + 1 : Nat) : Int)) := by have := hc j hlt 1 (by decide); rw [mkR_get hlt] at this; rw [hm]; simpa [encR] using this
      have c0 : wr.cell? ⟨b, off + j * 2, none⟩ = some (.string (mtx m)) := (hbel.cell (p := ⟨b, off + j * 2, none⟩) hlb).trans d0
      have hlr : b < wr.heap.size := by have := hbel.size; omega
      have HM := Lib.hid hm
      have i0 : (0 : Int) ≤ (j : Int) := by omega
      have i1 : (j : Int) < (n : Int) := by omega
      have hmb : 0 < m ∧ m ≤ 8388608 := by omega
      have e1 : ((mtx m).toList == (mtx m).toList) = true := by simp
      have e2 : (((m + 1 : Nat) : Int) != ((m + 1 : Nat) : Int)) = false := by simp
      have HD1 := Lib.hid d1
      rw [← hm]
      clear hm hc hbel d0 d1
      go_wp2_with fail
      refine wp_region_below (by kernel_rfl) (by kernel_rfl) ?_
      repeat (go_big_quiet_step ((go_at_call 140; exact quietB (markText_any m _ hmb.1 hmb.2))))
      refine wpQuiet_nil ?_
      rintro _ ⟨x, rfl⟩
      have HBX := Lib.hid (Below.then_ HB.out x.h)
      have c1 : x.wd.cell? ⟨b, off + j * 2 + 1, none⟩ = some (.int .i64 ((m + 1 : Nat) : Int)) := (HBX.out.cell (p := ⟨b, off + j * 2 + 1, none⟩) hlb).trans HD1.out
      clear c0
      go_wp2_with fail
      go_roundw
      case rel =>
        have hmm := HM.out
        exact ⟨j + 1, by omega, by go_num, congrArg (Value.int .i64) (by omega), HBX.out⟩
      case measure => simp [intOf]; omega
    · obtain rfl : j = n := by omega
      go_wp2_with fail
      go_ret
      exact ⟨rfl, HB.out⟩

/-- what markTable gives: marks, and only the rows' own block has turned of what the call knew -/
def RetMkT (w : World) (B : Nat) (v : Value) (k n : Nat) (e : Ending) (w' : World) : Prop := e = .returned (.int .i64 ((k + 2 * n : Nat) : Int)) ∧ OwnG encR 84 w' B v (mkR k n) ∧ w.grownBy w' v.ownBlock
set_option maxHeartbeats 1000000 in
theorem markTable_any (B : Nat) (v : Value) (D : Int) (rows : List RowT) (k : Nat) (w : World) (h : OwnG encR 84 w B v rows) (h0 : 0 < k) (h1 : k + 2 * rows.length ≤ 8388608) :
    Calls Try.prog 12 #[.agg #[.int .i64 D, v], .int .i64 (k : Nat)] w (RetMkT w B v k rows.length) := by
  obtain ⟨A, c, rfl⟩ := h.shape
  have hb : Below w.heap.size w (w.alloc (.cells #[.int .i64 D, .slice A rows.length c] 28)) := (Below.refl _ _).alloc (Nat.le_refl _) _
  have HB := Lib.hid hb
  have HO := Lib.hid (h.below hb)
  have HLT := Lib.hid h.lt
  clear h hb
  go_enter Try.func12, Try.ntmps12
  go_wp2_with fail
  refine (markRowS_any B _ rows k _ HO.out h0 h1).mono ?_
  rintro e w1 ⟨rfl, ho, hg⟩
  have HO1 := Lib.hid ho
  have HG1 : Hid (w.grownBy w1 (Value.slice A rows.length c).ownBlock) := Lib.hid ((show w.grownBy (w.alloc (.cells #[.int .i64 D, .slice A rows.length c] 28)) _ from ⟨rfl, rfl, rfl, HB.out.size, fun b hb _ => HB.out.block b hb⟩).trans hg)
  clear ho hg
  go_wp2_with fail
  go_ret
  exact ⟨rfl, HO1.out, HG1.out⟩
set_option maxHeartbeats 1000000 in
theorem heldTable_any {S : Nat → Prop} (v : Value) (D : Int) (k n : Nat) (w : World) (h : SlR encR w S v (mkR k n)) (h0 : 0 < k) (h1 : k + 2 * n ≤ 8388608) :
    Calls Try.prog 13 #[.agg #[.int .i64 D, v], .int .i64 (k : Nat)] w (RetV w (.int .i64 ((k + 2 * n : Nat) : Int))) := by
  have HR := Lib.hid h
  obtain ⟨A, c, rfl, hnc, hm, hx⟩ := h
  rw [mkR_len] at HR ⊢
  have HB := Lib.hid ((Below.refl w.heap.size w).alloc (Nat.le_refl _) (.cells #[.int .i64 D, .slice A n c] 28))
  clear hnc hx
  go_enter Try.func13, Try.ntmps13
  go_wp2_with fail
  refine (heldRowS_any _ k n _ (HR.out.below HB.out) h0 h1).mono ?_
  rintro e w1 ⟨rfl, hb1⟩
  have HB1 := Lib.hid (Below.then_ HB.out hb1)
  have e1 : ¬ ((k + 2 * n : Nat) : Int) < 0 := by omega
  obtain ⟨r, hr⟩ : ∃ r : Int, r = ((k + 2 * n : Nat) : Int) := ⟨_, rfl⟩
  rw [← hr] at e1 ⊢
  clear hb1
  go_wp2_with fail
  go_ret
  exact ⟨rfl, HB1.out⟩
end Go.Proofs.Ytclkboemgneojaa
