/- The program's CutTable. -/
import Derived.Test.YtclkboemgneojaaMt5
namespace Go.Proofs.Ytclkboemgneojaa
open Go.RowKit

theorem RetTr.some_ {w w' : World} {x : Option VT} {t : VT} {e : Ending} (h : RetTr w x e w') (hx : x = some t) : ∃ p, e = .returned (.pointer (some ⟨p, 0, none⟩)) ∧ Below w.heap.size w w' ∧ TreeR w' (fun b => w.heap.size ≤ b) t p := by
  subst hx
  obtain ⟨h1, p, h2, h3⟩ := h
  exact ⟨p, h2, h1, h3⟩

set_option maxRecDepth 100000 in
set_option maxHeartbeats 4000000 in
theorem implCutTable {S : Nat → Prop} (v : Value) (D k : Int) (rows : List RowT) (w : World) (h : SlR encR w S v rows) :
    Calls Try.prog 10 #[.agg #[.int .i64 D, v], .int .i64 k] w (RetMt w k (cutT D rows k)) := by
  have HR := Lib.hid h
  obtain ⟨A, c, rfl, hnc, hm, hx⟩ := h
  unfold maxLen at hm
  have HX := Lib.hid hx
  clear hx
  have hb0 : ∀ o1 o2, Below w.heap.size w ((w.alloc o1).alloc o2) := fun o1 o2 => ((Below.refl _ _).alloc (Nat.le_refl _) _).alloc (by simp) _
  have HB0 := Lib.hid hb0
  clear hb0
  cases hT : tabB D rows with
  | false =>
    have HN : Hid (cutT D rows k = none) := Lib.hid (by simp [cutT, hT])
    have CT := Lib.hid (fun W (hW : Below w.heap.size w W) => IsTable_b _ D rows false W (HR.out.below hW) hT)
    clear hT
    go_enter Try.func10, Try.ntmps10
    go_wp2_with fail
    refine (CT.out _ (HB0.out _ _)).mono ?_
    rintro e w1 ⟨rfl, hb1⟩
    obtain ⟨k0, k1⟩ := box2b hb1
    have hc := ((k1.put 0 (.int .i64 0)).put 1 (.slice none 0 0)).cell
    have kc := k1.cell
    have kf := k1.free
    have kd := k0.cell
    have HB1 := Lib.hid ((((HB0.out _ _).trans (hb1.mono (HB0.out _ _).size)).setCell (p := ⟨w.heap.size + 1, 0, none⟩) (by simp) (.int .i64 0)).setCell (p := ⟨w.heap.size + 1, 1, none⟩) (by simp) (.slice none 0 0))
    clear hb1 k0 k1
    go_wp2_with fail
    refine bodyPost_ret (v := .tuple #[.agg #[.int .i64 0, .slice none 0 0], .bool false]) (by simp [results, Try.results10, go_sem, hc]) rfl (RetMt.no HN.out HB1.out)
  | true =>
  have CT := Lib.hid (fun W (hW : Below w.heap.size w W) => IsTable_b _ D rows true W (HR.out.below hW) hT)
  have HT := Lib.hid hT
  cases hI : inB k 0 D with
  | false =>
    have HN : Hid (cutT D rows k = none) := Lib.hid (by simp [cutT, hI])
    have CI := Lib.hid (fun W => within_b k 0 D false W hI)
    clear hT hI
    go_enter Try.func10, Try.ntmps10
    go_wp2_with fail
    refine (CT.out _ (HB0.out _ _)).mono ?_
    rintro e w1 ⟨rfl, hb1⟩
    obtain ⟨k0, k1⟩ := box2b hb1
    have hc := ((k1.put 0 (.int .i64 0)).put 1 (.slice none 0 0)).cell
    have kc := k1.cell
    have kf := k1.free
    have kd := k0.cell
    have HB1 := Lib.hid ((((HB0.out _ _).trans (hb1.mono (HB0.out _ _).size)).setCell (p := ⟨w.heap.size + 1, 0, none⟩) (by simp) (.int .i64 0)).setCell (p := ⟨w.heap.size + 1, 1, none⟩) (by simp) (.slice none 0 0))
    clear hb1 k0 k1
    go_wp2_with (go_at_call 54; refine (CI.out _).mono ?_; rintro e w' ⟨rfl, rfl⟩)
    refine bodyPost_ret (v := .tuple #[.agg #[.int .i64 0, .slice none 0 0], .bool false]) (by simp [results, Try.results10, go_sem, hc]) rfl (RetMt.no HN.out HB1.out)
  | true =>
  have CI := Lib.hid (fun W => within_b k 0 D true W hI)
  have HC := Lib.hid (cutT_made hT hI)
  obtain ⟨hk1, hk2⟩ := inB_iff.1 hI
  obtain ⟨hD, hl60, hrow, -⟩ := tabB_iff.1 hT
  obtain ⟨hD1, hD2⟩ := inB_iff.1 hD
  have HROW := Lib.hid hrow
  obtain ⟨q, rfl⟩ : ∃ q : Nat, k = (q : Int) := ⟨k.toNat, by omega⟩
  rw [Int.toNat_natCast] at HC
  clear hT hI hD hrow
  go_enter Try.func10, Try.ntmps10
  go_wp2_with fail
  refine (CT.out _ (HB0.out _ _)).mono ?_
  rintro e w1 ⟨rfl, hb1⟩
  obtain ⟨k0, k1⟩ := box2b hb1
  have HB1 := Lib.hid (Below.then_ (HB0.out _ _) hb1)
  have HK1 := Lib.hid k1
  have kd := k0.cell
  have hz1 : w.heap.size + 1 < w1.heap.size := k1.lt
  clear hb1 k0 k1
  go_wp2_with (go_at_call 54; refine (CI.out _).mono ?_; rintro e w' ⟨rfl, rfl⟩)
  clear kd
  go_loopw [23, 6] (fun x x6 wr => ∃ (j : Nat) (Aa : Option Addr) (ca : Nat), j ≤ rows.length ∧ x = .int .i64 j ∧ x6 = .slice Aa j ca ∧ (j = 0 → Aa = none ∧ ca = 0) ∧ OwnG encR 84 wr (w.heap.size + 2) (.slice Aa j ca) ((rows.take j).map (cutRow q)) ∧
      Blk wr (w.heap.size + 1) 28 #[.int .i64 0, .slice none 0 0] ∧ Below w.heap.size w wr ∧ w.heap.size + 2 ≤ wr.heap.size) (fun x _ _ => rows.length - (intOf x).toNat)
  case atStart => exact ⟨0, none, 0, Nat.zero_le _, rfl, rfl, fun _ => ⟨rfl, rfl⟩, OwnG.nil, HK1.out, HB1.out, by omega⟩
  case round =>
    obtain ⟨j, Aa, ca, hj, rfl, rfl, hnil, hown, hkz, hbel, hz2⟩ := hrel
    have HNIL := Lib.hid hnil
    have HOW := Lib.hid hown
    have HKZ := Lib.hid hkz
    have HB := Lib.hid hbel
    clear hnil hown hkz
    by_cases hlt : j < rows.length
    · obtain ⟨b, off, rfl, -, hbl, hc⟩ := HX.out (by omega)
      have c0 : wr.cell? ⟨b, off + j * 2, none⟩ = some (.string (ga rows j).1) := by rw [hbel.cell (by exact hbl)]; simpa [encR] using hc j hlt 0 (by decide)
      have c1 : wr.cell? ⟨b, off + j * 2 + 1, none⟩ = some (.int .i64 (ga rows j).2) := by rw [hbel.cell (by exact hbl)]; simpa [encR] using hc j hlt 1 (by decide)
      have i0 : (0 : Int) ≤ (j : Int) := by omega
      have i1 : (j : Int) < (rows.length : Int) := by omega
      have hbw : Below wr.heap.size wr (wr.alloc (.cells #[.string (ga rows j).1, .int .i64 (ga rows j).2] 84)) := (Below.refl _ _).alloc (Nat.le_refl _) _
      have HBW := Lib.hid hbw
      have HRW := Lib.hid (Blk.new wr 84 #[.string (ga rows j).1, .int .i64 (ga rows j).2])
      obtain ⟨t, ht⟩ : ∃ t, viewOf (ga rows j).1 = some t := by
        have := HROW.out j hlt
        unfold rowB at this
        split at this
        · exact ⟨_, by assumption⟩
        · cases this
      have HCUT : Hid (cutRow q (ga rows j) = (strB (t.txt q), (ga rows j).2)) := Lib.hid (by simp [cutRow, ht])
      have HWF := Lib.hid (viewOf_inv ht).2.2.1
      have HTL := Lib.hid (viewOf_txt ht q).1
      have HVT := Lib.hid ht
      obtain ⟨gr, hgr2⟩ : ∃ gr, gr = wr.heap.size := ⟨_, rfl⟩
      have hsza : (wr.alloc (.cells #[.string (ga rows j).1, .int .i64 (ga rows j).2] 84)).heap.size = wr.heap.size + 1 := by simp
      clear hc hbw hbel ht
      go_wp2_with fail
      rw [← hgr2] at HRW ⊢
      have HGR := Lib.hid hgr2
      clear hgr2 c0 c1
      generalize wr.alloc (.cells #[.string (ga rows j).1, .int .i64 (ga rows j).2] 84) = wa at *
      have HKS : Hid (∀ W, Below wa.heap.size wa W → W.cell? ⟨gr, 0, none⟩ = some (.string (ga rows j).1) ∧ W.cell? ⟨gr, 1, none⟩ = some (.int .i64 (ga rows j).2)) := Lib.hid fun W hW => by
        have := (HRW.out.below hW).cell
        exact ⟨by rw [this]; rfl, by rw [this]; rfl⟩
      have HOA := Lib.hid (HOW.out.below HBW.out)
      have hza : w.heap.size + 2 ≤ wa.heap.size := by omega
      go_region_held3 (fun W => W.cell? ⟨gr, 0, none⟩ = some (.string (ga rows j).1) ∧ W.cell? ⟨gr, 1, none⟩ = some (.int .i64 (ga rows j).2))
        (first | exact ⟨by rw [hk5.cell]; rfl, by rw [hk5.cell]; rfl⟩ | (refine HKS.out _ ?_; repeat (first | with_reducible exact hbd' | with_reducible exact hbc' | with_reducible exact hbb' | with_reducible exact Below.refl _ _ | with_reducible refine Below.drew ?_ | with_reducible refine Below.alloc_ ?_ _)))
        (first
          | (go_at_call 55; refine (readView_any (ga rows j).1 _).mono ?_; intro e wb hrt; obtain ⟨p, rfl, hbb, htr⟩ := hrt.some_ HVT.out; clear hrt; have hbb' : Below wa.heap.size wa wb := (Below.then_ (by repeat (first | with_reducible exact hbd' | with_reducible exact hbc' | with_reducible exact hbb' | with_reducible exact Below.refl _ _ | with_reducible refine Below.drew ?_ | with_reducible refine Below.alloc_ ?_ _)) hbb))
          | (go_at_call 56; refine (textTo_any t _ p q (htr.below (by first | exact Below.refl _ _ | exact (Below.refl _ _).drew)) HWF.out HTL.out (by omega)).mono ?_; rintro e wc ⟨rfl, hbc⟩; have hbc' : Below wa.heap.size wa wc := (Below.then_ (by repeat (first | with_reducible exact hbd' | with_reducible exact hbc' | with_reducible exact hbb' | with_reducible exact Below.refl _ _ | with_reducible refine Below.drew ?_ | with_reducible refine Below.alloc_ ?_ _)) hbc))
          | (refine step_append_G rowElem (S := fun _ => True) _ rfl (.tmp 27) (.tmp 36) rfl (w.heap.size + 2) (.slice Aa j ca) ((rows.take j).map (cutRow q)) rfl (HOA.out.below (by repeat (first | with_reducible exact hbd' | with_reducible exact hbc' | with_reducible exact hbb' | with_reducible exact Below.refl _ _ | with_reducible refine Below.drew ?_ | with_reducible refine Below.alloc_ ?_ _))) _ [(strB (t.txt q), (ga rows j).2)] rfl (SlR.one (E := encR) (x := (strB (t.txt q), (ga rows j).2)) (Blk.newAt rfl)) (by simp; omega) (by have := hbc'.size; simp; omega) ?_; intro A5 c5 wd ho5 hg5 hl5; have hk5 : Blk wd gr 84 #[.string (ga rows j).1, .int .i64 (ga rows j).2] := ((hg5.block gr (by have := hbc'.size; have := HRW.out.lt; simp; omega) (fun e => by have := (HOW.out.lt gr e.symm).2; have := HGR.out; omega)).trans (HRW.out.below (by repeat (first | with_reducible exact hbc' | with_reducible exact hbb' | with_reducible exact Below.refl _ _ | with_reducible refine Below.drew ?_ | with_reducible refine Below.alloc_ ?_ _)))); have HO5 := Lib.hid ho5; have HKZ5 : Hid (Blk wd (w.heap.size + 1) 28 #[.int .i64 0, .slice none 0 0]) := Lib.hid ((hg5.block _ (by have := hbc'.size; simp; omega) (fun e => by have := (HOW.out.lt _ e.symm).1; omega)).trans ((HKZ.out.below HBW.out).below (by repeat (first | with_reducible exact hbc' | with_reducible exact hbb' | with_reducible exact Below.refl _ _ | with_reducible refine Below.drew ?_ | with_reducible refine Below.alloc_ ?_ _)))); have HB5 : Hid (Below w.heap.size w wd) := Lib.hid (((HB.out.trans (HBW.out.mono HB.out.size)).trans ((show Below wa.heap.size wa _ from (by repeat (first | with_reducible exact hbc' | with_reducible exact hbb' | with_reducible exact Below.refl _ _ | with_reducible refine Below.drew ?_ | with_reducible refine Below.alloc_ ?_ _))).mono (by omega))).grown hg5 (by have := hbc'.size; simp; omega) (fun k hk => by have := (HOW.out.lt k hk).1; omega)); have hz5 : wa.heap.size ≤ wd.heap.size := (Nat.le_trans (by have := hbc'.size; simp; omega) hg5.size); clear ho5 hg5 hl5))
      have HOF : Hid (OwnG encR 84 wd (w.heap.size + 2) (.slice A5 (j + 1) c5) ((rows.take (j + 1)).map (cutRow q))) := Lib.hid (by
        have e1 : (rows.take (j + 1)).map (cutRow q) = (rows.take j).map (cutRow q) ++ [(strB (t.txt q), (ga rows j).2)] := by
          rw [List.take_succ_eq_append_getElem hlt, List.map_append, List.map_cons, List.map_nil, ← ga_lt hlt, HCUT.out]
        have e2 : ((rows.take j).map (cutRow q)).length + [(strB (t.txt q), (ga rows j).2)].length = j + 1 := by simp; omega
        have := HO5.out
        rw [e2] at this
        rw [e1]; exact this)
      go_wp2_with fail
      go_roundw
      case rel => exact ⟨j + 1, A5, c5, by omega, by go_num, rfl, fun h => by omega, HOF.out, HKZ5.out, HB5.out, by omega⟩
      case measure => simp [intOf]; omega
    · obtain rfl : j = rows.length := by omega
      have HMT : Hid (madeT q (rows.map (cutRow q)) = cutT D rows q) := Lib.hid (by rw [HC.out]; rfl)
      have HOW2 : Hid (OwnG encR 84 wr (w.heap.size + 2) (.slice Aa rows.length ca) (rows.map (cutRow q))) := Lib.hid (by
        have := HOW.out
        rwa [List.take_of_length_le (Nat.le_refl _)] at this)
      have HCM : Hid (Calls Try.prog 57 #[.int .i64 (q : Int), .slice Aa rows.length ca] wr (RetMt wr q (cutT D rows q))) := Lib.hid (by
        rw [← HMT.out]
        by_cases h0 : rows.length = 0
        · obtain ⟨rfl, rfl⟩ := HNIL.out h0
          rw [h0]
          have : rows = [] := List.eq_nil_of_length_eq_zero h0
          rw [this]
          exact madeTable_nil q wr
        · obtain ⟨g, cap, hv, -⟩ := HOW2.out.addr (by simp; omega)
          simp only [List.length_map] at hv
          rw [hv]
          exact madeTable_some q (w.heap.size + 2) g rows.length cap _ wr (by rw [← hv]; exact HOW2.out) (by simp; omega))
      clear HX HR hbel
      go_wp2_with fail
      refine HCM.out.mono ?_
      intro e w5 hmt
      have HB5 := Lib.hid (Below.then_ HB.out hmt.1)
      have HK5 := Lib.hid (HKZ.out.below hmt.1)
      have kc := HK5.out.cell
      have kf := HK5.out.free
      obtain ⟨-, hres⟩ := hmt
      cases hx : cutT D rows q with
      | none =>
        have HXX := Lib.hid hx
        rw [hx] at hres
        clear hx
        obtain rfl : e = .returned (.tuple #[.agg #[.int .i64 0, .slice none 0 0], .bool false]) := hres
        have hc1 := ((HK5.out.put 0 (.int .i64 0)).put 1 (.slice none 0 0)).cell
        go_wp2_with fail
        refine bodyPost_ret (v := .tuple #[.agg #[.int .i64 0, .slice none 0 0], .bool false]) (by simp [results, Try.results10, go_sem, hc1]) rfl (RetMt.no HXX.out ((HB5.out.setCell (by simp) _).setCell (by simp) _))
      | some m =>
        have HXX := Lib.hid hx
        rw [hx] at hres
        obtain ⟨A6, c6, rfl, ho6⟩ := hres
        have HO6 := Lib.hid ho6
        have hc1 := ((HK5.out.put 0 (.int .i64 (q : Int))).put 1 (.slice A6 m.length c6)).cell
        clear ho6 hx
        go_wp2_with fail
        refine bodyPost_ret (v := .tuple #[.agg #[.int .i64 (q : Int), .slice A6 m.length c6], .bool true]) (by simp [results, Try.results10, go_sem, hc1]) rfl (RetMt.yes HXX.out rfl ((HB5.out.setCell (by simp) _).setCell (by simp) _) ((HO6.out.mono (by omega)).keepB fun b hb => by have := HO6.out.lt b hb; rw [Below.heap_setCell _ _ _ _ (by simp; omega), Below.heap_setCell _ _ _ _ (by simp; omega)]))
end Go.Proofs.Ytclkboemgneojaa
