/- The statements' own helpers: counting sizes; copying a network. -/
import Derived.Test.YtcjghlplkbpjcaaLh4
namespace Go.Proofs.Ytcjghlplkbpjcaa
open Go.RowKit

/-- what is left of a number behind n things -/
def szI (n : Nat) (left : Int) : Int := if left - n < 0 then -1 else left - n

theorem szIntS_any (A : Option Addr) (n c : Nat) (left : Int) (w : World) (hn : n ≤ 9223372036854775807) (h0 : 0 ≤ left) (h1 : left ≤ 1048576) :
    Calls Try.prog 56 #[.slice A n c, .int .i64 left] w (RetQ w (.int .i64 (szI n left))) := by
  by_cases h : left - n < 0
  · have HE : Hid (szI n left = -1) := by simp [Hid, szI, h]
    go_enter Try.func56, Try.ntmps56
    go_wp2
    go_ret
    exact ⟨by rw [HE.out]; rfl, rfl⟩
  · have HE : Hid (szI n left = left - n) := by simp [Hid, szI, h]
    go_enter Try.func56, Try.ntmps56
    go_wp2
    go_ret
    exact ⟨by rw [HE.out]; rfl, rfl⟩

theorem szEndS_any (A : Option Addr) (n c : Nat) (left : Int) (w : World) (hn : n ≤ 9223372036854775807) (h0 : 0 ≤ left) (h1 : left ≤ 1048576) :
    Calls Try.prog 119 #[.slice A n c, .int .i64 left] w (RetQ w (.int .i64 (szI n left))) := by
  by_cases h : left - n < 0
  · have HE : Hid (szI n left = -1) := by simp [Hid, szI, h]
    go_enter Try.func119, Try.ntmps119
    go_wp2
    go_ret
    exact ⟨by rw [HE.out]; rfl, rfl⟩
  · have HE : Hid (szI n left = left - n) := by simp [Hid, szI, h]
    go_enter Try.func119, Try.ntmps119
    go_wp2
    go_ret
    exact ⟨by rw [HE.out]; rfl, rfl⟩

theorem szI_le {n : Nat} {left : Int} (h : 0 ≤ left) : -1 ≤ szI n left ∧ szI n left ≤ left ∧ (0 ≤ szI n left → szI n left = left - n ∧ (n : Int) ≤ left) := by
  unfold szI; split <;> omega

/-- a number comes back; if it isn't below zero then P -/
def RetSz (w : World) (left : Int) (P : Prop) (e : Ending) (w' : World) : Prop := ∃ r : Int, e = .returned (.int .i64 r) ∧ -1 ≤ r ∧ r ≤ left ∧ (0 ≤ r → P) ∧ w = w'
def RetSzB (w : World) (left : Int) (P : Prop) (e : Ending) (w' : World) : Prop := ∃ r : Int, e = .returned (.int .i64 r) ∧ -1 ≤ r ∧ r ≤ left ∧ (0 ≤ r → P) ∧ Below w.heap.size w w'

set_option maxRecDepth 100000 in
set_option maxHeartbeats 800000 in
theorem szEndSS_any {S : Nat → Prop} (v : Value) (xs : List (List (Int × Int))) (left : Int) (w : World) (h : EndSSR w S v xs) (h0 : 0 ≤ left) (h1 : left ≤ 1048576) :
    Calls Try.prog 55 #[v, .int .i64 left] w (RetSz w left (Short xs)) := by
  obtain ⟨A, c, rfl, hnc, hm, hx⟩ := h
  unfold maxLen at hm
  have HX := Lib.hid hx
  clear hx
  by_cases h : left - xs.length < 0
  · go_enter Try.func55, Try.ntmps55
    go_wp2
    go_ret
    exact ⟨-1, rfl, by omega, by omega, fun h => absurd h (by omega), rfl⟩
  · go_enter Try.func55, Try.ntmps55
    go_wp2
    go_loop [1, 5] (fun l i => ∃ (k : Nat) (r : Int), k ≤ xs.length ∧ i = .int .i64 k ∧ l = .int .i64 r ∧ 0 ≤ r ∧ r ≤ left ∧ ∀ j, j < k → (gl xs j).length ≤ 1048576)
      (fun _ i => xs.length - (intOf i).toNat)
    case atStart => exact ⟨0, _, Nat.zero_le _, rfl, rfl, by omega, by omega, fun j hj => absurd hj (Nat.not_lt_zero _)⟩
    case round =>
      obtain ⟨k, r, hk, rfl, rfl, hr0, hr1, hj⟩ := hrel
      have HJ := Lib.hid hj
      clear hj
      by_cases hlt : k < xs.length
      · obtain ⟨b, off, rfl, -, hc⟩ := HX.out (by omega)
        obtain ⟨u, hu, A', c', rfl, hn', hm', -⟩ := hc k hlt
        unfold maxLen at hm'
        clear hc
        have hz := szI_le (n := (gl xs k).length) hr0
        obtain ⟨q, hq⟩ : ∃ q, q = szI (gl xs k).length r := ⟨_, rfl⟩
        rw [← hq] at hz
        have C := Lib.hid (szEndS_any A' (gl xs k).length c' r w (by omega) hr0 (by omega))
        rw [← hq] at C
        have HZ := Lib.hid hz.2.2
        obtain ⟨hz1, hz2, -⟩ := hz
        clear hq
        by_cases hneg : q < 0
        · go_wp2_with (go_at_call 119; refine C.out.mono ?_; rintro e w1 ⟨rfl, rfl⟩)
          go_ret
          exact ⟨-1, rfl, by omega, by omega, fun h => absurd h (by omega), rfl⟩
        · go_wp2_with (go_at_call 119; refine C.out.mono ?_; rintro e w1 ⟨rfl, rfl⟩)
          go_round
          case rel =>
            refine ⟨k + 1, q, by omega, by go_num, rfl, by omega, by omega, fun j hj => ?_⟩
            by_cases h1 : j = k
            · subst h1; have := (HZ.out (by omega)).2; omega
            · exact HJ.out j (by omega)
          case measure => simp [intOf]; omega
      · go_wp2
        go_ret
        exact ⟨r, rfl, by omega, by omega, fun h => ⟨by omega, fun i hi => by have := HJ.out i (by omega); omega⟩, rfl⟩

/-- a network whose lists are short -/
def ShortN (N : Net) : Prop := Short N.ends ∧ N.ids.length ≤ 1048576 ∧ N.inputs.length ≤ 1048576

set_option maxRecDepth 100000 in
set_option maxHeartbeats 800000 in
theorem szNetwork_any {S : Nat → Prop} (v : Value) (N : Net) (left : Int) (w : World) (h : NetR w S v N) (h0 : 0 ≤ left) (h1 : left ≤ 1048576) :
    Calls Try.prog 14 #[v, .int .i64 left] w (RetSzB w left (ShortN N)) := by
  obtain ⟨ve, vi, vn, rfl, he, hi, hn⟩ := h
  obtain ⟨A1, c1, rfl, hl1, hm1, -⟩ := hi
  obtain ⟨A2, c2, rfl, hl2, hm2, -⟩ := hn
  unfold maxLen at hm1 hm2
  have hb0 : Below w.heap.size w (w.alloc (Obj.cells #[ve, .slice A1 N.ids.length c1, .slice A2 N.inputs.length c2] 38)) := (Below.refl _ _).alloc (Nat.le_refl _) _
  have C1 := Lib.hid (szEndSS_any _ _ left _ (he.below hb0) h0 h1)
  have HB0 := Lib.hid hb0
  clear he hb0
  go_enter Try.func14, Try.ntmps14
  go_wp2_with fail
  refine C1.out.mono ?_
  rintro e w1 ⟨r1, rfl, hr1, hr1', hp1, rfl⟩
  have HP1 := Lib.hid hp1
  clear hp1
  by_cases hneg : r1 < 0
  · go_wp2_with fail
    go_ret
    exact ⟨-1, rfl, by omega, by omega, fun h => absurd h (by omega), HB0.out⟩
  go_wp2_with fail
  refine (szIntS_any _ _ _ r1 _ (by omega) (by omega) (by omega)).mono ?_
  obtain ⟨q, hq⟩ : ∃ q, q = szI N.ids.length r1 := ⟨_, rfl⟩
  have hz := szI_le (n := N.ids.length) (left := r1) (by omega)
  rw [← hq] at hz ⊢
  obtain ⟨hz1, hz2, hz3⟩ := hz
  have HZ := Lib.hid hz3
  clear hz3 hq
  rintro e w1 ⟨rfl, rfl⟩
  by_cases hneg2 : q < 0
  · go_wp2_with fail
    go_ret
    exact ⟨-1, rfl, by omega, by omega, fun h => absurd h (by omega), HB0.out⟩
  go_wp2_with fail
  refine (szIntS_any _ _ _ q _ (by omega) (by omega) (by omega)).mono ?_
  obtain ⟨p, hp⟩ : ∃ p, p = szI N.inputs.length q := ⟨_, rfl⟩
  have hz := szI_le (n := N.inputs.length) (left := q) (by omega)
  rw [← hp] at hz ⊢
  obtain ⟨hy1, hy2, hy3⟩ := hz
  have HY := Lib.hid hy3
  clear hy3 hp
  rintro e w1 ⟨rfl, rfl⟩
  by_cases hneg3 : p < 0
  · go_wp2_with fail
    go_ret
    exact ⟨-1, rfl, by omega, by omega, fun h => absurd h (by omega), HB0.out⟩
  go_wp2_with fail
  go_ret
  refine ⟨p, rfl, by omega, by omega, fun _ => ⟨HP1.out (by omega), ?_, ?_⟩, HB0.out⟩
  · have := (HZ.out (by omega)).2; omega
  · have := (HY.out (by omega)).2; omega

/-- a network in memory of the call's own -/
def OwnN (w : World) (B : Nat) (v : Value) (N : Net) : Prop :=
  ∃ ve vi vn, v = .agg #[ve, vi, vn] ∧ OwnEE w B ve N.ends ∧ OwnI w B vi N.ids ∧ OwnI w B vn N.inputs
theorem OwnN.below {w w' : World} {B : Nat} {v : Value} {N : Net} (h : OwnN w B v N) (hb : Below w.heap.size w w') : OwnN w' B v N := by
  obtain ⟨ve, vi, vn, rfl, h1, h2, h3⟩ := h
  exact ⟨ve, vi, vn, rfl, h1.below hb, h2.below hb, h3.below hb⟩
theorem OwnN.net {w : World} {B : Nat} {v : Value} {N : Net} (h : OwnN w B v N) (hs : ShortN N) : NetR w (fun b => B ≤ b) v N := by
  obtain ⟨ve, vi, vn, rfl, h1, h2, h3⟩ := h
  refine ⟨ve, vi, vn, rfl, h1.ends ?_ (fun i hi => ?_), h2.ints, h3.ints⟩
  · have := hs.1.1; unfold maxLen; omega
  · have := hs.1.2 i hi; unfold maxLen; omega
def RetN (w : World) (N : Net) (e : Ending) (w' : World) : Prop := ∃ v, e = .returned v ∧ OwnN w' w.heap.size v N ∧ Below w.heap.size w w'

set_option maxRecDepth 100000 in
set_option maxHeartbeats 800000 in
theorem toNetwork_any {S : Nat → Prop} (v : Value) (N : Net) (w : World) (h : NetR w S v N) (hs : ShortN N) :
    Calls Try.prog 16 #[v] w (RetN w N) := by
  obtain ⟨ve, vi, vn, rfl, he, hi, hn⟩ := h
  have hb0 : ∀ o1 o2 o3, Below w.heap.size w (((w.alloc o1).alloc o2).alloc o3) := fun o1 o2 o3 => (((Below.refl _ _).alloc (Nat.le_refl _) _).alloc (by simp) _).alloc (by simp; omega) _
  have HE := Lib.hid he
  have HI := Lib.hid hi
  have HN := Lib.hid hn
  have HB0 := Lib.hid hb0
  have HS := Lib.hid hs
  clear he hi hn hb0 hs
  go_enter Try.func16, Try.ntmps16
  go_wp2_with fail
  refine (toEndSS_any _ _ _ (HE.out.below (HB0.out _ _ _)) HS.out.1).mono ?_
  rintro e w1 ⟨v1, rfl, ho1, hb1⟩
  obtain ⟨k0, k1, k2⟩ := box3 hb1
  obtain ⟨A1, c1, rfl⟩ := ho1.shape
  simp only [World.size_alloc] at ho1
  have h0c := k0.cell
  have h2c := k2.cell
  have h2f := k2.free
  have HO1 := Lib.hid (ho1.far (p := ⟨w.heap.size + 1 + 1, 0, none⟩) (by simp) (.slice A1 N.ends.length c1))
  have HB1 := Lib.hid ((Below.then_ (HB0.out _ _ _) hb1).setCell (p := ⟨w.heap.size + 1 + 1, 0, none⟩) (by simp; omega) (.slice A1 N.ends.length c1))
  have K0 := Lib.hid (k0.far (p := ⟨w.heap.size + 1 + 1, 0, none⟩) (by simp; omega) (.slice A1 N.ends.length c1))
  have K1 := Lib.hid (k1.far (p := ⟨w.heap.size + 1 + 1, 0, none⟩) (by simp) (.slice A1 N.ends.length c1))
  have K2 := Lib.hid (k2.put 0 (.slice A1 N.ends.length c1))
  clear hb1 ho1 k0 k1 k2
  go_wp2_with fail
  clear h0c h2c h2f
  generalize w1.setCell ⟨w.heap.size + 1 + 1, 0, none⟩ (.slice A1 N.ends.length c1) = w2 at HO1 HB1 K0 K1 K2 ⊢
  refine (toIntS_any _ _ _ (HI.out.below HB1.out) (by have := HS.out.2.1; omega)).mono ?_
  rintro e w3 ⟨v2, rfl, ho2, hb2⟩
  obtain ⟨A2, c2, rfl⟩ := ho2.shape
  have hsz : w.heap.size + 1 + 1 < w2.heap.size := K2.out.lt
  have k0 := K0.out.below hb2
  have k1 := K1.out.below hb2
  have k2 := K2.out.below hb2
  have h0c := k0.cell
  have h2c := k2.cell
  have h2f := k2.free
  have HO1' := Lib.hid ((HO1.out.below hb2).far (p := ⟨w.heap.size + 1 + 1, 1, none⟩) (by simp) (.slice A2 N.ids.length c2))
  have HO2 := Lib.hid (ho2.far (p := ⟨w.heap.size + 1 + 1, 1, none⟩) hsz (.slice A2 N.ids.length c2))
  have HB2 := Lib.hid ((Below.then_ HB1.out hb2).setCell (p := ⟨w.heap.size + 1 + 1, 1, none⟩) (by simp; omega) (.slice A2 N.ids.length c2))
  have K0' := Lib.hid (k0.far (p := ⟨w.heap.size + 1 + 1, 1, none⟩) (by simp; omega) (.slice A2 N.ids.length c2))
  have K1' := Lib.hid (k1.far (p := ⟨w.heap.size + 1 + 1, 1, none⟩) (by simp) (.slice A2 N.ids.length c2))
  have K2' := Lib.hid (k2.put 1 (.slice A2 N.ids.length c2))
  clear hb2 ho2 k0 k1 k2 K0 K1 K2 HO1 HB1
  go_wp2_with fail
  clear h0c h2c h2f
  generalize w3.setCell ⟨w.heap.size + 1 + 1, 1, none⟩ (.slice A2 N.ids.length c2) = w4 at HO1' HO2 HB2 K0' K1' K2' ⊢
  refine (toIntS_any _ _ _ (HN.out.below HB2.out) (by have := HS.out.2.2; omega)).mono ?_
  rintro e w5 ⟨v3, rfl, ho3, hb3⟩
  obtain ⟨A3, c3, rfl⟩ := ho3.shape
  have hsz4 : w.heap.size + 1 + 1 < w4.heap.size := K2'.out.lt
  have k1 := K1'.out.below hb3
  have k0 := K0'.out.below hb3
  have k2 := K2'.out.below hb3
  have h0c := k0.cell
  have h1c := k1.cell
  have h1f := k1.free
  have h2c := k2.cell
  have h2f := k2.free
  have HO1 := Lib.hid ((((HO1'.out.below hb3).far (p := ⟨w.heap.size + 1 + 1, 2, none⟩) (by simp) (.slice A3 N.inputs.length c3))).mono (B' := w.heap.size + 2) (by omega))
  have HO2' := Lib.hid (((HO2.out.below hb3).far (p := ⟨w.heap.size + 1 + 1, 2, none⟩) hsz (.slice A3 N.inputs.length c3)).mono (B' := w.heap.size + 2) (by omega))
  have HO3 := Lib.hid ((ho3.far (p := ⟨w.heap.size + 1 + 1, 2, none⟩) hsz4 (.slice A3 N.inputs.length c3)).mono (B' := w.heap.size + 2) (by omega))
  have HB3 := Lib.hid ((Below.then_ HB2.out hb3).setCell (p := ⟨w.heap.size + 1 + 1, 2, none⟩) (by simp; omega) (.slice A3 N.inputs.length c3))
  have hcc := (k2.put 2 (.slice A3 N.inputs.length c3)).cell
  have hcd := (k1.far (p := ⟨w.heap.size + 1 + 1, 2, none⟩) (by simp) (.slice A3 N.inputs.length c3)).cell
  have hcf := (k1.far (p := ⟨w.heap.size + 1 + 1, 2, none⟩) (by simp) (.slice A3 N.inputs.length c3)).free
  clear hb3 ho3 k0 k1 k2 K0' K1' K2' HO1' HB2 HO2
  go_wp2_with fail
  refine bodyPost_ret (v := .agg #[.slice A1 N.ends.length c1, .slice A2 N.ids.length c2, .slice A3 N.inputs.length c3]) ?_ rfl ?_
  · simp [results, Try.results16, go_sem, hcd]
  · refine ⟨_, rfl, ⟨_, _, _, rfl, ?_, ?_, ?_⟩, ?_⟩
    · exact (((HO1.out.far (by simp) _).far (by simp) _).far (by simp) _).mono (by omega)
    · exact (((HO2'.out.far (by simp) _).far (by simp) _).far (by simp) _).mono (by omega)
    · exact (((HO3.out.far (by simp) _).far (by simp) _).far (by simp) _).mono (by omega)
    · exact ((HB3.out.setCell (by simp) _).setCell (by simp) _).setCell (by simp) _
end Go.Proofs.Ytcjghlplkbpjcaa
