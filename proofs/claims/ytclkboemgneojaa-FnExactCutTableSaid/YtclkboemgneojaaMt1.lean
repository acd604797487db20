/- The program's order of rows; worlds that have only grown. -/
import Derived.Test.YtclkboemgneojaaWr2
import Derived.Test.YtclkboemgneojaaTab2
import Derived.Test.YtclkboemgneojaaShelf
import Derived.Sort.Grow
import Derived.Shelf.SlSortCmp.NoneTotal
import Derived.Deep.RegionHeld3
namespace Go.Proofs.Ytclkboemgneojaa
open Go.RowKit Go.Sort

/-- draws and new blocks alone -/
def GwR (w w' : World) : Prop := ∃ q os, w' = grow (w.drewN q) os
theorem GwR.refl (w : World) : GwR w w := ⟨0, #[], by rw [grow_empty]; rfl⟩
theorem GwR.alloc_ {w w1 : World} (h : GwR w w1) (o : Obj) : GwR w (w1.alloc o) := by
  obtain ⟨q, os, rfl⟩ := h
  exact ⟨q, os ++ #[o], by rw [alloc_eq_grow, grow_grow]⟩
theorem GwR.drew_ {w w1 : World} (h : GwR w w1) : GwR w w1.drew := by
  obtain ⟨q, os, rfl⟩ := h
  exact ⟨q + 1, os, by simp [grow, World.drewN, World.drew, Nat.add_assoc]⟩
theorem GwR.trans_ {w w1 w2 : World} (h : GwR w w1) (k : GwR w1 w2) : GwR w w2 := by
  obtain ⟨q, os, rfl⟩ := h
  obtain ⟨q', os', rfl⟩ := k
  exact ⟨q + q', os ++ os', by simp [grow, World.drewN, Nat.add_assoc, Array.append_assoc]⟩
theorem GwR.below {w w1 : World} (h : GwR w w1) : Below w.heap.size w w1 := by
  obtain ⟨q, os, rfl⟩ := h
  refine ⟨rfl, rfl, rfl, by simp [grow, World.drewN], fun k hk => ?_⟩
  simp only [grow, World.drewN]
  rw [Array.getElem?_append_left hk]

theorem cmpB_spec : ∀ (a b : List UInt8), (Lib.compareBytes a b < 0 ↔ a < b) ∧ (Lib.compareBytes a b = 0 ↔ a = b)
  | [], [] => by simp [Lib.compareBytes]
  | [], _ :: _ => by simp [Lib.compareBytes]
  | _ :: _, [] => by simp [Lib.compareBytes]
  | x :: a, y :: b => by
    obtain ⟨h1, h2⟩ := cmpB_spec a b
    simp only [Lib.compareBytes, List.cons_lt_cons_iff, List.cons.injEq]
    by_cases h3 : x < y
    · have : x ≠ y := fun e => by rw [e] at h3; exact absurd h3 (by simp)
      simp [h3, this]
    · by_cases h4 : y < x
      · have : x ≠ y := fun e => by rw [e] at h4; exact absurd h4 (by simp)
        simp [h3, h4, this]
      · have h5 : x = y := by
          apply UInt8.toNat_inj.1
          simp only [UInt8.lt_iff_toNat_lt] at h3 h4
          omega
        simp [h5, h1, h2]
/-- the order that the program sorts by -/
def cfR (x y : RowT) : Int := if Lib.compareBytes x.1.data.toList y.1.data.toList ≠ 0 then Lib.compareBytes x.1.data.toList y.1.data.toList else Lib.compareInt x.2 y.2
theorem ltOf_cfR : ltOf cfR = ltR := by
  funext x y
  obtain ⟨h1, h2⟩ := cmpB_spec x.1.data.toList y.1.data.toList
  unfold ltOf cfR ltR
  rw [lessB_eq]
  by_cases h3 : Lib.compareBytes x.1.data.toList y.1.data.toList = 0
  · have h4 : x.1 = y.1 := bytes_ext (h2.1 h3)
    have h5 : ¬ y.1.data.toList < y.1.data.toList := List.lt_irrefl _
    have h3' := h3
    rw [h4] at h3'
    simp only [h3', ne_eq, not_true_eq_false, if_false, h4, h5, decide_false, Bool.false_or, decide_true, Bool.true_and]
    unfold Lib.compareInt
    by_cases h6 : x.2 < y.2
    · simp [h6]
    · by_cases h7 : x.2 > y.2 <;> simp [h6, h7]
  · have h4 : x.1 ≠ y.1 := fun e => h3 (h2.2 (by rw [e]))
    simp [h3, h4, h1]
theorem swoR : SWO ltR where
  irrefl := ltR_irrefl
  trans _ _ _ h1 h2 := ltR_trans h1 h2
  ntrans x y z h1 h2 := by
    cases h3 : ltR x z
    · rfl
    · by_cases h : y = x
      · rw [h] at h2; rw [h3] at h2; cases h2
      · have h4 := ltR_of h1 h
        have := ltR_trans h4 h3
        rw [h2] at this; cases this
theorem totR (x y : RowT) (h1 : ltR x y = false) (h2 : ltR y x = false) : x = y := by
  by_cases h : x = y
  · exact h
  · have := ltR_of h2 h
    rw [h1] at this; cases this

def RetGw (w : World) (v : Value) (e : Ending) (w' : World) : Prop := e = .returned v ∧ GwR w w'

set_option maxHeartbeats 1000000 in
theorem compareRows_any (x y : RowT) (w : World) : Calls Try.prog 136 #[.agg #[.string x.1, .int .i64 x.2], .agg #[.string y.1, .int .i64 y.2]] w (RetGw w (.int .i64 (Lib.compareBytes x.1.data.toList y.1.data.toList))) := by
  have HC := Lib.hid (fun W => Try.strings_Compare x.1 y.1 W)
  have HG := Lib.hid ((((GwR.refl w).alloc_ (.cells #[.string x.1, .int .i64 x.2] 84)).alloc_ (.cells #[.string y.1, .int .i64 y.2] 84)))
  generalize Lib.compareBytes x.1.data.toList y.1.data.toList = r at HC ⊢
  go_enter Try.func136, Try.ntmps136
  go_wp2_with (go_at_call 182; refine (HC.out _).mono ?_; rintro e w' ⟨rfl, rfl⟩)
  go_ret
  exact ⟨rfl, HG.out⟩

def orI (a b : Int) : Int := if a ≠ 0 then a else b
set_option maxHeartbeats 1000000 in
theorem cmpOr_two (a b : Int) (g : Nat) (w : World) (h0 : w.cell? ⟨g, 0, none⟩ = some (.int .i64 a)) (h1 : w.cell? ⟨g, 1, none⟩ = some (.int .i64 b)) :
    Calls Try.prog 135 #[.slice (some ⟨g, 0, none⟩) 2 2] w (RetQ w (.int .i64 (orI a b))) := by
  have HO := Lib.hid (show orI a b = if a ≠ 0 then a else b from rfl)
  go_enter Try.func135, Try.ntmps135
  go_wp2_with fail
  go_loop [8] (fun i => ∃ k : Nat, k ≤ 2 ∧ i = .int .i64 k ∧ (0 < k → a = 0) ∧ (1 < k → b = 0)) (fun i => 2 - (intOf i).toNat)
  case atStart => exact ⟨0, by omega, rfl, by omega, by omega⟩
  case round =>
    obtain ⟨k, hk, rfl, ha, hb⟩ := hrel
    have HA := Lib.hid ha
    have HB := Lib.hid hb
    clear ha hb
    match k, hk with
    | 0, _ =>
      by_cases hz : a = 0
      · have e1 : (a != 0) = false := by simp [hz]
        have HZ := Lib.hid hz
        clear hz
        go_wp2_with fail
        go_round
        case rel => exact ⟨1, by omega, rfl, fun _ => HZ.out, by omega⟩
        case measure => simp [intOf]
      · have e1 : (a != 0) = true := by simp [hz]
        have HE : Hid (orI a b = a) := Lib.hid (by rw [HO.out, if_pos hz])
        clear hz
        go_wp2_with fail
        go_ret
        exact ⟨by rw [HE.out]; rfl, rfl⟩
    | 1, _ =>
      by_cases hz : b = 0
      · have e1 : (b != 0) = false := by simp [hz]
        have HZ := Lib.hid hz
        clear hz
        go_wp2_with fail
        go_round
        case rel => exact ⟨2, by omega, rfl, fun _ => HA.out (by omega), fun _ => HZ.out⟩
        case measure => simp [intOf]
      · have e1 : (b != 0) = true := by simp [hz]
        have HE : Hid (orI a b = b) := Lib.hid (by rw [HO.out, if_neg (by simp [HA.out (by omega)])])
        clear hz
        go_wp2_with fail
        go_ret
        exact ⟨by rw [HE.out]; rfl, rfl⟩
    | 2, _ =>
      have HE : Hid (orI a b = 0) := Lib.hid (by rw [HO.out, HA.out (by omega), HB.out (by omega)]; rfl)
      go_wp2_with fail
      go_ret
      exact ⟨by rw [HE.out]; rfl, rfl⟩

theorem cfR_or (x y : RowT) : cfR x y = orI (Lib.compareBytes x.1.data.toList y.1.data.toList) (Lib.compareInt x.2 y.2) := rfl
set_option maxRecDepth 100000 in
set_option maxHeartbeats 2000000 in
theorem madeClo (x y : RowT) (w : World) : Calls Try.prog 134 #[.agg #[.string x.1, .int .i64 x.2], .agg #[.string y.1, .int .i64 y.2]] w (RetGw w (.int .i64 (cfR x y))) := by
  rw [cfR_or]
  have HX := Lib.hid (fun W => compareRows_any x y W)
  have HI := Lib.hid (fun W => Try.cmp_Compare_int x.2 y.2 W)
  generalize hc1 : Lib.compareBytes x.1.data.toList y.1.data.toList = r1 at HX ⊢
  generalize hc2 : Lib.compareInt x.2 y.2 = r2 at HI ⊢
  clear hc1 hc2
  obtain ⟨w2, hw2⟩ : ∃ w2, w2 = (w.alloc (.cells #[.string x.1, .int .i64 x.2] 84)).alloc (.cells #[.string y.1, .int .i64 y.2] 84) := ⟨_, rfl⟩
  have HG : Hid (GwR w w2) := Lib.hid (by rw [hw2]; exact ((GwR.refl w).alloc_ _).alloc_ _)
  have hka : Blk w2 w.heap.size 84 #[.string x.1, .int .i64 x.2] := by rw [hw2]; exact (Blk.new _ _ _).alloc _
  have hkb : Blk w2 (w.heap.size + 1) 84 #[.string y.1, .int .i64 y.2] := by
    rw [hw2]
    have := Blk.new (w.alloc (.cells #[.string x.1, .int .i64 x.2] 84)) 84 #[.string y.1, .int .i64 y.2]
    simpa using this
  have HKS : Hid (∀ W, GwR w2 W → (W.cell? ⟨w.heap.size, 0, none⟩ = some (.string x.1) ∧ W.cell? ⟨w.heap.size, 1, none⟩ = some (.int .i64 x.2)) ∧ (W.cell? ⟨w.heap.size + 1, 0, none⟩ = some (.string y.1) ∧ W.cell? ⟨w.heap.size + 1, 1, none⟩ = some (.int .i64 y.2))) := Lib.hid fun W hW => by
    have ha := (hka.below hW.below).cell
    have hb := (hkb.below hW.below).cell
    exact ⟨⟨by rw [ha]; rfl, by rw [ha]; rfl⟩, by rw [hb]; rfl, by rw [hb]; rfl⟩
  clear hka hkb
  go_enter Try.func134, Try.ntmps134
  go_wp2_with fail
  rw [← hw2]
  clear hw2
  go_region_held3 (fun W => (W.cell? ⟨w.heap.size, 0, none⟩ = some (.string x.1) ∧ W.cell? ⟨w.heap.size, 1, none⟩ = some (.int .i64 x.2)) ∧ (W.cell? ⟨w.heap.size + 1, 0, none⟩ = some (.string y.1) ∧ W.cell? ⟨w.heap.size + 1, 1, none⟩ = some (.int .i64 y.2)))
    ((refine HKS.out _ ?_; repeat (first | with_reducible exact hgb' | with_reducible exact GwR.refl _ | with_reducible refine GwR.drew_ ?_ | with_reducible refine GwR.alloc_ ?_ _)))
    (first
      | (go_at_call 136; refine (HX.out _).mono ?_; rintro e wb ⟨rfl, hgb⟩; have hgb' : GwR w2 wb := (GwR.trans_ (by repeat (first | with_reducible exact hgb' | with_reducible exact GwR.refl _ | with_reducible refine GwR.drew_ ?_ | with_reducible refine GwR.alloc_ ?_ _)) hgb))
      | (go_at_call 137; refine (HI.out _).mono ?_; rintro e w' ⟨rfl, rfl⟩)
      | (go_at_call 135; refine (cmpOr_two r1 r2 _ _ (by first | rfl | (simp [Blk.cell (Blk.newAt rfl)]; done)) (by first | rfl | (simp [Blk.cell (Blk.newAt rfl)]; done))).mono ?_; rintro e w' ⟨rfl, rfl⟩))
  go_wp2_with fail
  go_ret
  exact ⟨rfl, HG.out.trans_ (hgb'.alloc_ _)⟩
end Go.Proofs.Ytclkboemgneojaa
