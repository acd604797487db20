/- Parts of the proof, joined: Mt1, Mt2. -/
import Derived.Test.YtjoimponfeofkaaGreatCJn24
import Derived.Test.YtjoimponfeofkaaGreatCTab2
import Derived.Test.YtjoimponfeofkaaGreatShelf
import Derived.Sort.Grow
import Derived.Shelf.SlSortCmp.NoneTotal
import Derived.Deep.RegionHeld3
namespace Go.Proofs.YtjoimponfeofkaaGreat
open Go.RowKit Go.Sort

/-- draws and new blocks alone -/
def GwR (w w' : World) : Prop := ∃ q os, w' = grow (w.drewN q) os
theorem GwR.refl (w : World) : GwR w w := ⟨0, #[], by rw [grow_empty]; rfl⟩
theorem GwR.alloc_ {w w1 : World} (h : GwR w w1) (o : Obj) : GwR w (w1.alloc o) := by
  obtain ⟨q, os, rfl⟩ := h
  exact ⟨q, os ++ #[o], by rw [alloc_eq_grow, grow_grow]⟩
theorem GwR.drew_ {w w1 : World} (h : GwR w w1) : GwR w w1.drew := by
  obtain ⟨q, os, rfl⟩ := h
  exact ⟨q + 1, os, by simp [grow, World.drewN, World.drew, Nat.add_assoc]⟩
theorem GwR.trans_ {w w1 w2 : World} (h : GwR w w1) (k : GwR w1 w2) : GwR w w2 := by
  obtain ⟨q, os, rfl⟩ := h
  obtain ⟨q', os', rfl⟩ := k
  exact ⟨q + q', os ++ os', by simp [grow, World.drewN, Nat.add_assoc, Array.append_assoc]⟩
theorem GwR.below {w w1 : World} (h : GwR w w1) : Below w.heap.size w w1 := by
  obtain ⟨q, os, rfl⟩ := h
  refine ⟨rfl, rfl, rfl, by simp [grow, World.drewN], fun k hk => ?_⟩
  simp only [grow, World.drewN]
  rw [Array.getElem?_append_left hk]

theorem cmpB_spec : ∀ (a b : List UInt8), (Lib.compareBytes a b < 0 ↔ a < b) ∧ (Lib.compareBytes a b = 0 ↔ a = b)
  | [], [] => by simp [Lib.compareBytes]
  | [], _ :: _ => by simp [Lib.compareBytes]
  | _ :: _, [] => by simp [Lib.compareBytes]
  | x :: a, y :: b => by
    obtain ⟨h1, h2⟩ := cmpB_spec a b
    simp only [Lib.compareBytes, List.cons_lt_cons_iff, List.cons.injEq]
    by_cases h3 : x < y
    · have : x ≠ y := fun e => by rw [e] at h3; exact absurd h3 (by simp)
      simp [h3, this]
    · by_cases h4 : y < x
      · have : x ≠ y := fun e => by rw [e] at h4; exact absurd h4 (by simp)
        simp [h3, h4, this]
      · have h5 : x = y := by
          apply UInt8.toNat_inj.1
          simp only [UInt8.lt_iff_toNat_lt] at h3 h4
          omega
        simp [h5, h1, h2]
/-- the order that the program sorts by -/
def cfR (x y : RowT) : Int := if Lib.compareBytes x.1.data.toList y.1.data.toList ≠ 0 then Lib.compareBytes x.1.data.toList y.1.data.toList else Lib.compareInt x.2 y.2
theorem ltOf_cfR : ltOf cfR = ltR := by
  funext x y
  obtain ⟨h1, h2⟩ := cmpB_spec x.1.data.toList y.1.data.toList
  unfold ltOf cfR ltR
  rw [lessB_eq]
  by_cases h3 : Lib.compareBytes x.1.data.toList y.1.data.toList = 0
  · have h4 : x.1 = y.1 := bytes_ext (h2.1 h3)
    have h5 : ¬ y.1.data.toList < y.1.data.toList := List.lt_irrefl _
    have h3' := h3
    rw [h4] at h3'
    simp only [h3', ne_eq, not_true_eq_false, if_false, h4, h5, decide_false, Bool.false_or, decide_true, Bool.true_and]
    unfold Lib.compareInt
    by_cases h6 : x.2 < y.2
    · simp [h6]
    · by_cases h7 : x.2 > y.2 <;> simp [h6, h7]
  · have h4 : x.1 ≠ y.1 := fun e => h3 (h2.2 (by rw [e]))
    simp [h3, h4, h1]
theorem swoR : SWO ltR where
  irrefl := ltR_irrefl
  trans _ _ _ h1 h2 := ltR_trans h1 h2
  ntrans x y z h1 h2 := by
    cases h3 : ltR x z
    · rfl
    · by_cases h : y = x
      · rw [h] at h2; rw [h3] at h2; cases h2
      · have h4 := ltR_of h1 h
        have := ltR_trans h4 h3
        rw [h2] at this; cases this
theorem totR (x y : RowT) (h1 : ltR x y = false) (h2 : ltR y x = false) : x = y := by
  by_cases h : x = y
  · exact h
  · have := ltR_of h2 h
    rw [h1] at this; cases this

def RetGw (w : World) (v : Value) (e : Ending) (w' : World) : Prop := e = .returned v ∧ GwR w w'

set_option maxHeartbeats 1000000 in
theorem compareRows_any (x y : RowT) (w : World) : Calls Tryz.prog 69 #[.agg #[.string x.1, .int .i64 x.2], .agg #[.string y.1, .int .i64 y.2]] w (RetGw w (.int .i64 (Lib.compareBytes x.1.data.toList y.1.data.toList))) := by
  have HC := Lib.hid (fun W => Tryz.strings_Compare x.1 y.1 W)
  have HG := Lib.hid ((((GwR.refl w).alloc_ (.cells #[.string x.1, .int .i64 x.2] 76)).alloc_ (.cells #[.string y.1, .int .i64 y.2] 76)))
  generalize Lib.compareBytes x.1.data.toList y.1.data.toList = r at HC ⊢
  go_enter Tryz.func69, Tryz.ntmps69
  go_wp2_with (go_at_call 100; refine (HC.out _).mono ?_; rintro e w' ⟨rfl, rfl⟩)
  go_ret
  exact ⟨rfl, HG.out⟩

def orI (a b : Int) : Int := if a ≠ 0 then a else b
set_option maxHeartbeats 1000000 in
theorem cmpOr_two (a b : Int) (g : Nat) (w : World) (h0 : w.cell? ⟨g, 0, none⟩ = some (.int .i64 a)) (h1 : w.cell? ⟨g, 1, none⟩ = some (.int .i64 b)) :
    Calls Tryz.prog 87 #[.slice (some ⟨g, 0, none⟩) 2 2] w (RetQ w (.int .i64 (orI a b))) := by
  have HO := Lib.hid (show orI a b = if a ≠ 0 then a else b from rfl)
  go_enter Tryz.func87, Tryz.ntmps87
  go_wp2_with fail
  go_loop [8] (fun i => ∃ k : Nat, k ≤ 2 ∧ i = .int .i64 k ∧ (0 < k → a = 0) ∧ (1 < k → b = 0)) (fun i => 2 - (intOf i).toNat)
  case atStart => exact ⟨0, by omega, rfl, by omega, by omega⟩
  case round =>
    obtain ⟨k, hk, rfl, ha, hb⟩ := hrel
    have HA := Lib.hid ha
    have HB := Lib.hid hb
    clear ha hb
    match k, hk with
    | 0, _ =>
      by_cases hz : a = 0
      · have e1 : (a != 0) = false := by simp [hz]
        have HZ := Lib.hid hz
        clear hz
        go_wp2_with fail
        go_round
        case rel => exact ⟨1, by omega, rfl, fun _ => HZ.out, by omega⟩
        case measure => simp [intOf]
      · have e1 : (a != 0) = true := by simp [hz]
        have HE : Hid (orI a b = a) := Lib.hid (by rw [HO.out, if_pos hz])
        clear hz
        go_wp2_with fail
        go_ret
        exact ⟨by rw [HE.out]; rfl, rfl⟩
    | 1, _ =>
      by_cases hz : b = 0
      · have e1 : (b != 0) = false := by simp [hz]
        have HZ := Lib.hid hz
        clear hz
        go_wp2_with fail
        go_round
        case rel => exact ⟨2, by omega, rfl, fun _ => HA.out (by omega), fun _ => HZ.out⟩
        case measure => simp [intOf]
      · have e1 : (b != 0) = true := by simp [hz]
        have HE : Hid (orI a b = b) := Lib.hid (by rw [HO.out, if_neg (by simp [HA.out (by omega)])])
        clear hz
        go_wp2_with fail
        go_ret
        exact ⟨by rw [HE.out]; rfl, rfl⟩
    | 2, _ =>
      have HE : Hid (orI a b = 0) := Lib.hid (by rw [HO.out, HA.out (by omega), HB.out (by omega)]; rfl)
      go_wp2_with fail
      go_ret
      exact ⟨by rw [HE.out]; rfl, rfl⟩

theorem cfR_or (x y : RowT) : cfR x y = orI (Lib.compareBytes x.1.data.toList y.1.data.toList) (Lib.compareInt x.2 y.2) := rfl
set_option maxRecDepth 100000 in
set_option maxHeartbeats 2000000 in
theorem madeClo (x y : RowT) (w : World) : Calls Tryz.prog 86 #[.agg #[.string x.1, .int .i64 x.2], .agg #[.string y.1, .int .i64 y.2]] w (RetGw w (.int .i64 (cfR x y))) := by
  rw [cfR_or]
  have HX := Lib.hid (fun W => compareRows_any x y W)
  have HI := Lib.hid (fun W => Tryz.cmp_Compare_int x.2 y.2 W)
  generalize hc1 : Lib.compareBytes x.1.data.toList y.1.data.toList = r1 at HX ⊢
  generalize hc2 : Lib.compareInt x.2 y.2 = r2 at HI ⊢
  clear hc1 hc2
  obtain ⟨w2, hw2⟩ : ∃ w2, w2 = (w.alloc (.cells #[.string x.1, .int .i64 x.2] 76)).alloc (.cells #[.string y.1, .int .i64 y.2] 76) := ⟨_, rfl⟩
  have HG : Hid (GwR w w2) := Lib.hid (by rw [hw2]; exact ((GwR.refl w).alloc_ _).alloc_ _)
  have hka : Blk w2 w.heap.size 76 #[.string x.1, .int .i64 x.2] := by rw [hw2]; exact (Blk.new _ _ _).alloc _
  have hkb : Blk w2 (w.heap.size + 1) 76 #[.string y.1, .int .i64 y.2] := by
    rw [hw2]
    have := Blk.new (w.alloc (.cells #[.string x.1, .int .i64 x.2] 76)) 76 #[.string y.1, .int .i64 y.2]
    simpa using this
  have HKS : Hid (∀ W, GwR w2 W → (W.cell? ⟨w.heap.size, 0, none⟩ = some (.string x.1) ∧ W.cell? ⟨w.heap.size, 1, none⟩ = some (.int .i64 x.2)) ∧ (W.cell? ⟨w.heap.size + 1, 0, none⟩ = some (.string y.1) ∧ W.cell? ⟨w.heap.size + 1, 1, none⟩ = some (.int .i64 y.2))) := Lib.hid fun W hW => by
    have ha := (hka.below hW.below).cell
    have hb := (hkb.below hW.below).cell
    exact ⟨⟨by rw [ha]; rfl, by rw [ha]; rfl⟩, by rw [hb]; rfl, by rw [hb]; rfl⟩
  clear hka hkb
  go_enter Tryz.func86, Tryz.ntmps86
  go_wp2_with fail
  rw [← hw2]
  clear hw2
  go_region_held3 (fun W => (W.cell? ⟨w.heap.size, 0, none⟩ = some (.string x.1) ∧ W.cell? ⟨w.heap.size, 1, none⟩ = some (.int .i64 x.2)) ∧ (W.cell? ⟨w.heap.size + 1, 0, none⟩ = some (.string y.1) ∧ W.cell? ⟨w.heap.size + 1, 1, none⟩ = some (.int .i64 y.2)))
    ((refine HKS.out _ ?_; repeat (first | with_reducible exact hgb' | with_reducible exact GwR.refl _ | with_reducible refine GwR.drew_ ?_ | with_reducible refine GwR.alloc_ ?_ _)))
    (first
      | (go_at_call 69; refine (HX.out _).mono ?_; rintro e wb ⟨rfl, hgb⟩; have hgb' : GwR w2 wb := (GwR.trans_ (by repeat (first | with_reducible exact hgb' | with_reducible exact GwR.refl _ | with_reducible refine GwR.drew_ ?_ | with_reducible refine GwR.alloc_ ?_ _)) hgb))
      | (go_at_call 88; refine (HI.out _).mono ?_; rintro e w' ⟨rfl, rfl⟩)
      | (go_at_call 87; refine (cmpOr_two r1 r2 _ _ (by first | rfl | (simp [Blk.cell (Blk.newAt rfl)]; done)) (by first | rfl | (simp [Blk.cell (Blk.newAt rfl)]; done))).mono ?_; rintro e w' ⟨rfl, rfl⟩))
  go_wp2_with fail
  go_ret
  exact ⟨rfl, HG.out.trans_ (hgb'.alloc_ _)⟩
end Go.Proofs.YtjoimponfeofkaaGreat

namespace Go.Proofs.YtjoimponfeofkaaGreat
open Go.RowKit Go.Sort

theorem heap_mapBlock (w : World) (g : Nat) (f : Array Value → Array Value) {c : Array Value} {t : TypeId} {fr : Nat × Nat} (h : w.heap[g]? = some (.cells c t fr)) : (mapBlock w g f).heap[g]? = some (.cells (f c) t fr) := by
  simp [mapBlock, Array.getElem?_modify, h, onCells]
theorem heap_mapBlock_ne (w : World) (g k : Nat) (f : Array Value → Array Value) (h : k ≠ g) : (mapBlock w g f).heap[k]? = w.heap[k]? := by
  simp [mapBlock, Array.getElem?_modify, Ne.symm h]
theorem flat_get (d : List RowT) {i : Nat} (hi : i < d.length * 2) : (flatK encR.enc 2 d.toArray)[i]! = (if i % 2 = 0 then .string (ga d (i / 2)).1 else .int .i64 (ga d (i / 2)).2) := by
  rw [get_flatK _ _ _ _ (by simpa using hi)]
  have hj : i / 2 < d.length := by omega
  have : d.toArray[i / 2]! = ga d (i / 2) := by rw [ga_lt hj]; simp [hj]
  rw [this]
  rcases Nat.mod_two_eq_zero_or_one i with h | h <;> simp [h, encR]
theorem own_sorted {t : TypeId} {w : World} {B g cap : Nat} {rs : List RowT} (h : OwnG encR t w B (.slice (some ⟨g, 0, none⟩) rs.length cap) rs) (d : List RowT) (hl : d.length = rs.length) (n : Nat) (os : Array Obj) :
    OwnG encR t (sortWorldK encR.enc 2 w g 0 n d.toArray os) B (.slice (some ⟨g, 0, none⟩) d.length cap) d ∧ w.grownBy (sortWorldK encR.enc 2 w g 0 n d.toArray os) (some g) := by
  rcases h.2 with ⟨h1, _⟩ | ⟨g', cap', cur, hv, hB, hg, hn, hm, hs, ht⟩
  · cases h1
  cases hv
  have hk : encR.k = 2 := rfl
  have hgl : g < w.heap.size := (Array.getElem?_eq_some_iff.1 hg).1
  have hsz : (sortWorldK encR.enc 2 w g 0 n d.toArray os).heap.size = w.heap.size + os.size := by simp [sortWorldK, grow, putRowK]
  have hne : ∀ k, k < w.heap.size → k ≠ g → (sortWorldK encR.enc 2 w g 0 n d.toArray os).heap[k]? = w.heap[k]? := fun k hk hne => by
    unfold sortWorldK grow putRowK putRow
    rw [Array.getElem?_append_left (by simpa [mapBlock] using hk), heap_mapBlock_ne _ _ _ _ hne]
    rfl
  refine ⟨⟨encR.cells_length d, .inr ⟨g, cap, putCells id 0 (flatK encR.enc 2 d.toArray) cur, rfl, hB, ?_, by omega, hm, by simpa [putCells] using hs, ?_⟩⟩, ?_⟩
  · unfold sortWorldK grow putRowK putRow
    rw [Array.getElem?_append_left (by simpa [mapBlock] using hgl)]
    exact heap_mapBlock _ _ _ hg
  · apply List.ext_getElem?
    intro i
    rw [hk] at hs ⊢
    by_cases hi : i < d.length * 2
    · rw [List.getElem?_take_of_lt hi]
      have h1 := encR.cells_get (xs := d) (j := i / 2) (i := i % 2) (by omega) (by rw [hk]; omega)
      rw [hk, show i / 2 * 2 + i % 2 = i by omega] at h1
      rw [h1, Array.getElem?_toList]
      have hic : i < cur.size := by omega
      simp only [putCells, Array.getElem?_mapIdx, Array.getElem?_eq_getElem hic, Option.map_some, Nat.zero_le, true_and, Nat.zero_add, size_flatK, List.size_toArray, if_pos hi, Nat.sub_zero, id]
      rw [flat_get d hi]
      rcases Nat.mod_two_eq_zero_or_one i with h | h <;> simp [h, encR]
    · rw [List.getElem?_eq_none (by simp; omega), List.getElem?_eq_none (by rw [encR.cells_length, hk]; omega)]
  · exact ⟨rfl, rfl, rfl, by omega, fun k hk hne2 => hne k hk (fun e => hne2 (by rw [e]))⟩
theorem own_holds {t : TypeId} {w : World} {B g cap : Nat} {rs : List RowT} (h : OwnG encR t w B (.slice (some ⟨g, 0, none⟩) rs.length cap) rs) : HoldsK encR.enc 2 w g 0 rs.toArray := by
  intro j hj
  rw [size_flatK, List.size_toArray] at hj
  obtain ⟨h1, h2⟩ := h.at_ (j := j / 2) (by omega)
  have h3 := h1 (j % 2) (by show j % 2 < 2; omega)
  rw [show j / 2 * encR.k + j % 2 = j by show j / 2 * 2 + j % 2 = j; omega] at h3
  rw [Nat.zero_add, flat_get rs hj]
  refine ⟨?_, h2 j⟩
  rw [h3]
  rcases Nat.mod_two_eq_zero_or_one j with h | h <;> simp [h, encR]

def RetSo (w : World) (t : TypeId) (B g cap : Nat) (rs : List RowT) (e : Ending) (w' : World) : Prop :=
  e = .returned (.tuple #[]) ∧ OwnG encR t w' B (.slice (some ⟨g, 0, none⟩) rs.length cap) (rs.mergeSort fun x y => !ltR y x) ∧ w.grownBy w' (some g)

theorem sortRows_any (B g cap : Nat) (rs : List RowT) (w : World) (h : OwnG encR 76 w B (.slice (some ⟨g, 0, none⟩) rs.length cap) rs) (hn : rs.length ≤ 4194304) :
    Calls Tryz.prog 85 #[.slice (some ⟨g, 0, none⟩) rs.length cap, .func (.func 86) #[] #[]] w (RetSo w 76 B g cap rs) := by
  have eg : ∀ args w, (callFunc 86 args).run Tryz.prog w = .ok (.enter 86 args) w := enters_of Tryz.func86 (by kernel_rfl) rfl
  have hcl : CmpLays Tryz.prog 86 #[] encR.enc 2 cfR g 0 rs.toArray.size w := fun m os dk hs x y => (madeClo x y _).mono fun e w' ⟨he, q, os', hw⟩ => ⟨he, q, os', hw⟩
  have hgl : g < w.heap.size := by
    rcases h.2 with ⟨h1, _⟩ | ⟨g', cap', cur, hv, hB, hg, _⟩
    · cases h1
    · cases hv; exact (Array.getElem?_eq_some_iff.1 hg).1
  have hS := AnyQ.slices_SortFunc_total Tryz.laysSlF06_f85 2 Tryz.isAgg76 Tryz.sizeOf76 encR.enc (fun _ => rfl) encR.one cfR (by rw [ltOf_cfR]; exact swoR) 86 #[] g 0 cap rs.toArray w eg hcl (own_holds h) hgl (by simp; omega) (by rw [ltOf_cfR]; exact totR)
  rw [ltOf_cfR] at hS
  rw [List.size_toArray] at hS
  refine Calls.mono hS ?_
  rintro e w' ⟨he, n, os, rfl⟩
  obtain ⟨h1, h2⟩ := own_sorted h (rs.mergeSort fun x y => !ltR y x) (List.length_mergeSort _) n os
  rw [List.length_mergeSort] at h1
  exact ⟨he, h1, h2⟩
end Go.Proofs.YtjoimponfeofkaaGreat
