/- The program's table of rows in any order. -/
import Derived.Test.YtclkboemgneojaaMt4
import Derived.Test.YtclkboemgneojaaSx4
namespace Go.Proofs.Ytclkboemgneojaa
open Go.RowKit

/-- what madeTable and CutTable of the program give -/
def RetMt (w : World) (k : Int) (x : Option (List RowT)) (e : Ending) (w' : World) : Prop := Below w.heap.size w w' ∧ (match x with
  | none => e = .returned (.tuple #[.agg #[.int .i64 0, .slice none 0 0], .bool false])
  | some m => ∃ A c, e = .returned (.tuple #[.agg #[.int .i64 k, .slice A m.length c], .bool true]) ∧ OwnG encR 84 w' w.heap.size (.slice A m.length c) m)
def madeT (k : Int) (rs : List RowT) : Option (List RowT) := if tabB k (madeOf rs) = true then some (madeOf rs) else none
theorem RetMt.no {w w' : World} {k : Int} {x : Option (List RowT)} (h : x = none) (hb : Below w.heap.size w w') : RetMt w k x (.returned (.tuple #[.agg #[.int .i64 0, .slice none 0 0], .bool false])) w' := by subst h; exact ⟨hb, rfl⟩
theorem RetMt.yes {w w' : World} {k : Int} {x : Option (List RowT)} {m : List RowT} {A : Option Addr} {n c : Nat} (h : x = some m) (hn : n = m.length) (hb : Below w.heap.size w w') (ho : OwnG encR 84 w' w.heap.size (.slice A n c) m) :
    RetMt w k x (.returned (.tuple #[.agg #[.int .i64 k, .slice A n c], .bool true])) w' := by subst h hn; exact ⟨hb, A, c, rfl, ho⟩
theorem IsTable_b {S : Nat → Prop} (v : Value) (D : Int) (rows : List RowT) (b : Bool) (w : World) (h : SlR encR w S v rows) (hb : tabB D rows = b) : Calls Try.prog 53 #[.agg #[.int .i64 D, v]] w (RetV w (.bool b)) := by subst hb; exact IsTable_any v D rows w h

theorem clone_nil (w : World) : Calls Try.prog 132 #[.slice none 0 0] w (RetQ w (.slice none 0 0)) :=
  (AnyE.slices_Clone_nil Try.laysSlE041_f132 0 0 w).mono fun _ _ ⟨he, hw⟩ => ⟨he, hw.symm⟩
theorem sort_nil (w : World) (fv : Value) : Calls Try.prog 133 #[.slice none 0 0, fv] w (RetQ w (.tuple #[])) :=
  (AnyF.slices_SortFunc_none Try.laysSlF06_f133 none 0 fv w).mono fun _ _ ⟨he, hw⟩ => ⟨he, hw.symm⟩
theorem compact_nil (w : World) : Calls Try.prog 138 #[.slice none 0 0] w (RetQ w (.slice none 0 0)) := by
  go_enter Try.func138, Try.ntmps138
  go_wp2_with fail
  go_ret
  exact ⟨rfl, rfl⟩
theorem clone_some (B g n c : Nat) (rs : List RowT) (w : World) (h : OwnG encR 84 w B (.slice (some ⟨g, 0, none⟩) n c) rs) (hn : rs.length ≤ 4194304) :
    Calls Try.prog 132 #[.slice (some ⟨g, 0, none⟩) n c] w fun e w' => ∃ g' cap, e = .returned (.slice (some ⟨g', 0, none⟩) rs.length cap) ∧ OwnG encR 84 w' w.heap.size (.slice (some ⟨g', 0, none⟩) rs.length cap) rs ∧ Below w.heap.size w w' := by
  obtain ⟨-, -, hnl, -⟩ := own_cap h
  subst hnl
  obtain ⟨i0, hi, hz0, hz1, hz2⟩ := info_parts row_info
  have hbig : rs.length * 24 ≤ 140737488355328 := by omega
  refine (AnyE.slices_Clone Try.laysSlE041_f132 i0 _ 2 24 hi hz0 hz1 hz2 rfl (by omega) Try.sizeOf84 g 0 rs.length c (encR.cells rs) w (encR.cells_length rs) (by unfold maxLen; omega) hbig (fun j u hj => ?_) (encR.cells_one rs)).mono ?_
  · have hjl : j < rs.length * 2 := by
      have := (List.getElem?_eq_some_iff.1 hj).1
      rw [encR.cells_length] at this; exact this
    obtain ⟨h1, -⟩ := h.at_ (j := j / 2) (by omega)
    have h2 := h1 (j % 2) (by show j % 2 < 2; omega)
    have h3 := encR.cells_get (xs := rs) (j := j / 2) (i := j % 2) (by omega) (by show j % 2 < 2; omega)
    rw [show j / 2 * encR.k + j % 2 = j by show j / 2 * 2 + j % 2 = j; omega] at h2 h3
    rw [Nat.zero_add, h2, ← h3, hj]
  · rintro e w' ⟨v', rfl, ho, hne, hb⟩
    have ho' : OwnG encR 84 w' w.heap.size v' rs := ho
    rcases ho'.2 with ⟨h1, h2⟩ | ⟨g', cap', cur, hv, _⟩
    · rw [h2] at ho
      exact absurd h1 hne
    · subst hv
      exact ⟨g', cap', rfl, ho', hb⟩

set_option maxRecDepth 100000 in
set_option maxHeartbeats 2000000 in
theorem madeTable_nil (k : Int) (w : World) : Calls Try.prog 57 #[.int .i64 k, .slice none 0 0] w (RetMt w k (madeT k [])) := by
  have hmo : madeOf [] = [] := by
    have := madeOf_len []
    exact List.eq_nil_of_length_eq_zero (by simpa using this)
  have hk1 := Blk.new w 28 #[.int .i64 0, .slice none 0 0]
  have hz0 : w.heap.size < (w.alloc (.cells #[.int .i64 0, .slice none 0 0] 28)).heap.size := by simp
  cases hT : tabB k [] with
  | false =>
    have HN : Hid (madeT k [] = none) := Lib.hid (by simp [madeT, hmo, hT])
    have CT := Lib.hid (fun W => IsTable_b (S := fun _ => True) (.slice none 0 0) k [] false W SlR.nil hT)
    clear hT hmo hk1 hz0
    go_enter Try.func57, Try.ntmps57
    go_wp2_with (first
      | (go_at_call 132; refine (clone_nil _).mono ?_; rintro e w' ⟨rfl, rfl⟩)
      | (go_at_call 133; refine (sort_nil _ _).mono ?_; rintro e w' ⟨rfl, rfl⟩)
      | (go_at_call 138; refine (compact_nil _).mono ?_; rintro e w' ⟨rfl, rfl⟩))
    refine (CT.out _).mono ?_
    rintro e w1 ⟨rfl, hb1⟩
    obtain ⟨k0, k1⟩ := box2b hb1
    have HB1 := Lib.hid ((((Below.refl w.heap.size w).alloc (Nat.le_refl _) (.cells #[.int .i64 0, .slice none 0 0] 28)).alloc (by simp) (.cells #[.int .i64 k, .slice none 0 0] 28)).trans (hb1.mono (by simp; omega)))
    have kc := k0.cell
    have kf := k0.free
    have hc1 := ((k0.put 0 (.int .i64 0)).put 1 (.slice none 0 0)).cell
    clear k0 k1 hb1
    go_wp2_with fail
    refine bodyPost_ret (v := .tuple #[.agg #[.int .i64 0, .slice none 0 0], .bool false]) (by simp [results, Try.results57, go_sem, hc1]) rfl (RetMt.no HN.out ((HB1.out.setCell (by simp) _).setCell (by simp) _))
  | true =>
    have HN : Hid (madeT k [] = some []) := Lib.hid (by simp [madeT, hmo, hT])
    have CT := Lib.hid (fun W => IsTable_b (S := fun _ => True) (.slice none 0 0) k [] true W SlR.nil hT)
    clear hT hmo hk1 hz0
    go_enter Try.func57, Try.ntmps57
    go_wp2_with (first
      | (go_at_call 132; refine (clone_nil _).mono ?_; rintro e w' ⟨rfl, rfl⟩)
      | (go_at_call 133; refine (sort_nil _ _).mono ?_; rintro e w' ⟨rfl, rfl⟩)
      | (go_at_call 138; refine (compact_nil _).mono ?_; rintro e w' ⟨rfl, rfl⟩))
    refine (CT.out _).mono ?_
    rintro e w1 ⟨rfl, hb1⟩
    obtain ⟨k0, k1⟩ := box2b hb1
    have HB1 := Lib.hid ((((Below.refl w.heap.size w).alloc (Nat.le_refl _) (.cells #[.int .i64 0, .slice none 0 0] 28)).alloc (by simp) (.cells #[.int .i64 k, .slice none 0 0] 28)).trans (hb1.mono (by simp; omega)))
    have kc := k0.cell
    have kf := k0.free
    have kd := k1.cell
    have hc1 := ((k0.put 0 (.int .i64 k)).put 1 (.slice none 0 0)).cell
    clear k0 k1 hb1
    go_wp2_with fail
    refine bodyPost_ret (v := .tuple #[.agg #[.int .i64 k, .slice none 0 0], .bool true]) (by simp [results, Try.results57, go_sem, hc1]) rfl (RetMt.yes HN.out rfl ((HB1.out.setCell (by simp) _).setCell (by simp) _) OwnG.nil)

set_option maxRecDepth 100000 in
set_option maxHeartbeats 2000000 in
theorem madeTable_some (k : Int) (B g n c : Nat) (rs : List RowT) (w : World) (h : OwnG encR 84 w B (.slice (some ⟨g, 0, none⟩) n c) rs) (hn : rs.length ≤ 4194304) :
    Calls Try.prog 57 #[.int .i64 k, .slice (some ⟨g, 0, none⟩) n c] w (RetMt w k (madeT k rs)) := by
  have HO := Lib.hid h
  have HA0 := Lib.hid ((Below.refl w.heap.size w).alloc (Nat.le_refl _) (.cells #[.int .i64 0, .slice none 0 0] 28))
  have HK0 := Lib.hid (Blk.new w 28 #[.int .i64 0, .slice none 0 0])
  clear h
  obtain ⟨d, hd⟩ : ∃ d, d = rs.mergeSort fun x y => !ltR y x := ⟨_, rfl⟩
  have hdl : d.length = rs.length := by rw [hd, List.length_mergeSort]
  have HDL := Lib.hid hdl
  have HM : Hid (madeOf rs = ddR d) := Lib.hid (by rw [hd]; rfl)
  have HD := Lib.hid hd
  clear hd hdl
  go_enter Try.func57, Try.ntmps57
  go_wp2_with fail
  refine (clone_some B g n c rs _ (HO.out.below HA0.out) hn).mono ?_
  rintro e w1 ⟨g1, cap, rfl, ho1, hb1⟩
  simp only [World.size_alloc] at ho1
  have hg1 := (own_cap ho1).2.2.2
  have HO1 := Lib.hid ho1
  have HK1 := Lib.hid (HK0.out.below hb1)
  have HB1 := Lib.hid (HA0.out.trans (hb1.mono (by simp)))
  clear ho1 hb1
  go_wp2_with fail
  refine (sortRows_any _ g1 cap rs w1 HO1.out hn).mono ?_
  rintro e w2 ⟨rfl, ho2, hg2⟩
  have hz1 : w.heap.size < w1.heap.size := HK1.out.lt
  rw [← HD.out] at ho2
  have HO2 : Hid (OwnG encR 84 w2 (w.heap.size + 1) (.slice (some ⟨g1, 0, none⟩) d.length cap) d) := Lib.hid (by rw [HDL.out]; exact ho2)
  have HK2 : Hid (Blk w2 w.heap.size 28 #[.int .i64 0, .slice none 0 0]) := Lib.hid ((hg2.block _ hz1 (fun e => by cases e; omega)).trans HK1.out)
  have HB2 : Hid (Below w.heap.size w w2) := Lib.hid (HB1.out.grown hg2 (by omega) (fun k hk => by cases hk; omega))
  have hz2 : w1.heap.size ≤ w2.heap.size := hg2.size
  clear ho2 hg2
  have hcc := compact_any (w.heap.size + 1) g1 cap d w2 HO2.out
  rw [HDL.out] at hcc
  have HCC := Lib.hid hcc
  clear hcc
  go_wp2_with fail
  refine HCC.out.mono ?_
  rintro e w3 ⟨rfl, ho3, hg3⟩
  rw [← HM.out] at ho3 ⊢
  have HO3 := Lib.hid ho3
  have HK3 : Hid (Blk w3 w.heap.size 28 #[.int .i64 0, .slice none 0 0]) := Lib.hid ((hg3.block _ (by omega) (fun e => by cases e; omega)).trans HK2.out)
  have HB3 : Hid (Below w.heap.size w w3) := Lib.hid (HB2.out.grown hg3 (by omega) (fun k hk => by cases hk; omega))
  have hz3 : w2.heap.size ≤ w3.heap.size := hg3.size
  obtain ⟨m, hm⟩ : ∃ m, m = madeOf rs := ⟨_, rfl⟩
  rw [← hm] at HO3 ⊢
  have HMM := Lib.hid hm
  clear ho3 hg3 HCC hm
  have hb4 : Below w3.heap.size w3 (w3.alloc (.cells #[.int .i64 k, .slice (some ⟨g1, 0, none⟩) m.length cap] 28)) := (Below.refl _ _).alloc (Nat.le_refl _) _
  have HO4 := Lib.hid (HO3.out.below hb4)
  have HK4 := Lib.hid (HK3.out.below hb4)
  have HB4 : Hid (Below w.heap.size w _) := Lib.hid (HB3.out.trans (hb4.mono (by omega)))
  have HN4 := Lib.hid (Blk.new w3 28 #[.int .i64 k, .slice (some ⟨g1, 0, none⟩) m.length cap])
  clear hb4
  cases hT : tabB k m with
  | false =>
    have HN : Hid (madeT k rs = none) := Lib.hid (by rw [madeT, ← HMM.out, hT]; rfl)
    have CT := Lib.hid (fun W (hW : SlR encR W (fun b => w.heap.size + 1 ≤ b) (.slice (some ⟨g1, 0, none⟩) m.length cap) m) => IsTable_b _ k m false W hW hT)
    clear hT
    go_wp2_with fail
    refine (CT.out _ HO4.out.slrB).mono ?_
    rintro e w5 ⟨rfl, hb5⟩
    have HK5 := Lib.hid (HK4.out.below hb5)
    have HN5 := Lib.hid (HN4.out.below hb5)
    have HO5 := Lib.hid (HO4.out.below hb5)
    have HB5 := Lib.hid (Below.then_ HB4.out hb5)
    have kc := HK5.out.cell
    have kf := HK5.out.free
    have kn := HN5.out.cell
    have hc1 := ((HK5.out.put 0 (.int .i64 0)).put 1 (.slice none 0 0)).cell
    clear hb5
    go_wp2_with fail
    refine bodyPost_ret (v := .tuple #[.agg #[.int .i64 0, (.slice none 0 0)], .bool false]) (by simp [results, Try.results57, go_sem, hc1]) rfl (RetMt.no HN.out ((HB5.out.setCell (by simp) _).setCell (by simp) _))
  | true =>
    have HN : Hid (madeT k rs = some m) := Lib.hid (by rw [madeT, ← HMM.out, hT]; rfl)
    have CT := Lib.hid (fun W (hW : SlR encR W (fun b => w.heap.size + 1 ≤ b) (.slice (some ⟨g1, 0, none⟩) m.length cap) m) => IsTable_b _ k m true W hW hT)
    clear hT
    go_wp2_with fail
    refine (CT.out _ HO4.out.slrB).mono ?_
    rintro e w5 ⟨rfl, hb5⟩
    have HK5 := Lib.hid (HK4.out.below hb5)
    have HN5 := Lib.hid (HN4.out.below hb5)
    have HO5 := Lib.hid (HO4.out.below hb5)
    have HB5 := Lib.hid (Below.then_ HB4.out hb5)
    have kc := HK5.out.cell
    have kf := HK5.out.free
    have kn := HN5.out.cell
    have hc1 := ((HK5.out.put 0 (.int .i64 k)).put 1 (.slice (some ⟨g1, 0, none⟩) m.length cap)).cell
    clear hb5
    go_wp2_with fail
    refine bodyPost_ret (v := .tuple #[.agg #[.int .i64 k, (.slice (some ⟨g1, 0, none⟩) m.length cap)], .bool true]) (by simp [results, Try.results57, go_sem, hc1]) rfl (RetMt.yes HN.out rfl ((HB5.out.setCell (by simp) _).setCell (by simp) _) ((HO5.out.mono (by omega)).keepB fun b hb => by have := HO5.out.lt b hb; rw [Below.heap_setCell _ _ _ _ (by simp; omega), Below.heap_setCell _ _ _ _ (by simp; omega)]))
end Go.Proofs.Ytclkboemgneojaa
