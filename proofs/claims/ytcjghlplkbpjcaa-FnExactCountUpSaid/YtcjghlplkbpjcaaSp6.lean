/- The reference's SumUp and CountUp. -/
import Derived.Test.YtcjghlplkbpjcaaSp5
namespace Go.Proofs.Ytcjghlplkbpjcaa
open Go.RowKit

open Classical in
noncomputable def treeB (N : Net) (ps : List Int) : Bool := decide (goodB N = true ∧ ∃ r ds, TreeAt N ps r ds)
theorem treeB_iff {N : Net} {ps : List Int} : treeB N ps = true ↔ goodB N = true ∧ ∃ r ds, TreeAt N ps r ds := by simp [treeB]

set_option maxRecDepth 100000 in
set_option maxHeartbeats 800000 in
theorem biTree_any {S S' : Nat → Prop} (v u : Value) (N : Net) (ps : List Int) (w : World) (h : NetR w S v N) (hp : IntsR w S' u ps) :
    Calls Try.prog 57 #[v, u] w (RetV w (.bool (treeB N ps))) := by
  have C1 := Lib.hid (fun (W : World) (hW : Below w.heap.size w W) => neGood_any v N W (h.below hW))
  have C2 := Lib.hid (fun (W : World) (hW : Below w.heap.size w W) (hg : goodB N = true) => biDepths_any v u N ps W (h.below hW) (hp.below hW) hg)
  obtain ⟨ve, vi, vn, rfl, he, hi, hn⟩ := h
  obtain ⟨A, c, rfl, -, -, -⟩ := he
  obtain ⟨A1, c1, rfl, -, -, -⟩ := hi
  obtain ⟨A2, c2, rfl, -, -, -⟩ := hn
  have hb0 : ∀ o1, Below w.heap.size w (w.alloc o1) := fun o1 => (Below.refl _ _).alloc (Nat.le_refl _) _
  have HB0 := Lib.hid hb0
  clear hb0 hp
  cases hg : goodB N
  · have HT : Hid (treeB N ps = false) := by
      show _ = false
      rw [← Bool.not_eq_true, treeB_iff, hg]; rintro ⟨h, _⟩; cases h
    have HG := Lib.hid hg
    clear hg
    go_enter Try.func57, Try.ntmps57
    go_wp2_with (go_at_call 96; refine (C1.out _ (HB0.out _)).mono ?_; rintro e w1 ⟨rfl, hb1⟩; rw [HG.out]; have HB1 := Lib.hid (Below.then_ (HB0.out _) hb1); clear hb1)
    go_ret
    exact ⟨by rw [HT.out]; rfl, HB1.out⟩
  · have HG := Lib.hid hg
    clear hg
    go_enter Try.func57, Try.ntmps57
    go_wp2_with fail
    refine (C1.out _ (HB0.out _)).mono ?_
    rintro e w1 ⟨rfl, hb1⟩
    rw [HG.out]
    have k1 := box1 hb1
    have HB1 := Lib.hid (Below.then_ (HB0.out _) hb1)
    clear hb1
    go_wp2_with fail
    refine (C2.out _ HB1.out HG.out).mono ?_
    rintro e w2 ⟨hb2, hres⟩
    have HB2 := Lib.hid (Below.then_ HB1.out hb2)
    clear hb2 k1
    rcases hres with ⟨r, ds, vd, htr, rfl, -⟩ | ⟨hno, rfl⟩
    · have HT : Hid (treeB N ps = true) := treeB_iff.2 ⟨HG.out, r, ds, htr⟩
      clear htr
      go_wp2_with fail
      go_ret
      exact ⟨by rw [HT.out]; rfl, HB2.out⟩
    · have HT : Hid (treeB N ps = false) := by
        show _ = false
        rw [← Bool.not_eq_true, treeB_iff]; exact fun h => hno h.2
      clear hno
      go_wp2_with fail
      go_ret
      exact ⟨by rw [HT.out]; rfl, HB2.out⟩

/-- what SumUp asks -/
def SumOk (N : Net) (ps vals : List Int) : Prop := goodB N = true ∧ (∃ r ds, TreeAt N ps r ds) ∧ vals.length = ps.length ∧ allB vals (-1000000) 1000000 = true
/-- what SumUp gives: sums, a height, digits -/
def SumIs (N : Net) (ps vals s : List Int) (h b : Int) : Prop := ∃ r ds, TreeAt N ps r ds ∧ Final ps.length (par N ps) r vals s ∧ IsMax ds h ∧ b = bitsAll ps.length r s
theorem SumIs.unique {N : Net} {ps vals s s' : List Int} {h h' b b' : Int} (hg : goodB N = true) (x : SumIs N ps vals s h b) (y : SumIs N ps vals s' h' b') : s = s' ∧ h = h' ∧ b = b' := by
  obtain ⟨r, ds, t, f, m, rfl⟩ := x
  obtain ⟨r', ds', t', f', m', rfl⟩ := y
  obtain ⟨rfl, rfl⟩ := TreeAt.unique t t'
  have := Final.unique (gi ds) (fun u hu hr => (t.par hg hu hr).2.1) (fun u hu => (t.zero hu).2.2) f f'
  subst this
  exact ⟨rfl, m.unique m', rfl⟩
def RetSum (N : Net) (ps vals : List Int) (w : World) (e : Ending) (w' : World) : Prop :=
  Below w.heap.size w w' ∧ ((SumOk N ps vals ∧ ∃ (v : Value) (s : List Int) (h b : Int), SumIs N ps vals s h b ∧ e = .returned (.tuple #[v, .int .i64 h, .int .i64 b, .bool true]) ∧ OwnI w' w.heap.size v s) ∨
    (¬ SumOk N ps vals ∧ e = .returned (.tuple #[.slice none 0 0, .int .i64 0, .int .i64 0, .bool false])))

theorem bitsPart_succ (r : Nat) (s : List Int) (k : Nat) : bitsAll (k + 1) r s = bitsAll k r s + (if k ≠ r then (bitsN (gi s k).natAbs : Int) + 1 else 0) := rfl
theorem bitsPart_le (r : Nat) (s : List Int) : ∀ k, 0 ≤ bitsAll k r s ∧ bitsAll k r s ≤ k * 65
  | 0 => by simp [bitsAll, sumTo]
  | k + 1 => by
    have := bitsPart_le r s k
    have h2 := bitsN_le (gi s k).natAbs
    rw [bitsPart_succ]
    split <;> omega

set_option maxRecDepth 100000 in
set_option maxHeartbeats 2000000 in
theorem specSumUp_any {S S' S'' : Nat → Prop} (v u x : Value) (N : Net) (ps vals : List Int) (w : World) (h : NetR w S v N) (hp : IntsR w S' u ps) (hv : IntsR w S'' x vals) :
    Calls Try.prog 15 #[v, u, x] w (RetSum N ps vals w) := by
  have hpb := hp.bound
  have hvb := hv.bound
  have C1 := Lib.hid (fun (W : World) (hW : Below w.heap.size w W) => biTree_any v u N ps W (h.below hW) (hp.below hW))
  have C2 := Lib.hid (fun (W : World) (hW : Below w.heap.size w W) => l1All_any x vals (-1000000) 1000000 W (hv.below hW))
  have C3 := Lib.hid (fun (W : World) (hW : Below w.heap.size w W) r ds => biUp_any v u x N ps vals r ds W (h.below hW) (hp.below hW) (hv.below hW))
  obtain ⟨ve, vi, vn, rfl, he, hi, hn⟩ := h
  obtain ⟨A, c, rfl, -, -, -⟩ := he
  obtain ⟨A1, c1, rfl, -, -, -⟩ := hi
  obtain ⟨A2, c2, rfl, -, -, -⟩ := hn
  obtain ⟨A3, c3, rfl, hn3, hm3, hx3⟩ := hp
  obtain ⟨A4, c4, rfl, -, -, -⟩ := hv
  have HX3 := Lib.hid hx3
  have hb0 : ∀ o1, Below w.heap.size w (w.alloc o1) := fun o1 => (Below.refl _ _).alloc (Nat.le_refl _) _
  have HB0 := Lib.hid hb0
  clear hb0 hx3
  cases ht : treeB N ps
  · have HT : Hid (¬ SumOk N ps vals) := fun h => by have : treeB N ps = true := treeB_iff.2 ⟨h.1, h.2.1⟩; rw [ht] at this; cases this
    have H1 := Lib.hid ht
    clear ht
    go_enter Try.func15, Try.ntmps15
    go_wp2_with (go_at_call 57; refine (C1.out _ (HB0.out _)).mono ?_; rintro e w1 ⟨rfl, hb1⟩; rw [H1.out]; have HB1 := Lib.hid (Below.then_ (HB0.out _) hb1); clear hb1)
    refine bodyPost_ret (results_four rfl _ _ _) rfl ?_
    exact ⟨HB1.out, .inr ⟨HT.out, rfl⟩⟩
  have H1 := Lib.hid ht
  clear ht
  by_cases hl : vals.length = ps.length
  case neg =>
    have HT : Hid (¬ SumOk N ps vals) := fun h => hl h.2.2.1
    have e1 : (((vals.length : Nat) : Int) != ((ps.length : Nat) : Int)) = true := by simp; omega
    clear hl
    go_enter Try.func15, Try.ntmps15
    go_wp2_with (go_at_call 57; refine (C1.out _ (HB0.out _)).mono ?_; rintro e w1 ⟨rfl, hb1⟩; rw [H1.out]; have HB1 := Lib.hid (Below.then_ (HB0.out _) hb1); clear hb1)
    refine bodyPost_ret (results_four rfl _ _ _) rfl ?_
    exact ⟨HB1.out, .inr ⟨HT.out, rfl⟩⟩
  have e1 : (((vals.length : Nat) : Int) != ((ps.length : Nat) : Int)) = false := by simp [hl]
  have HL := Lib.hid hl
  clear hl
  cases ha : allB vals (-1000000) 1000000
  · have HT : Hid (¬ SumOk N ps vals) := fun h => by have := h.2.2.2; rw [ha] at this; cases this
    have H2 := Lib.hid ha
    clear ha
    go_enter Try.func15, Try.ntmps15
    go_wp2_with (first | (go_at_call 57; refine (C1.out _ (HB0.out _)).mono ?_; rintro e w1 ⟨rfl, hb1⟩; rw [H1.out]; have HB1 := Lib.hid (Below.then_ (HB0.out _) hb1); clear hb1) | (go_at_call 58; refine (C2.out _ HB1.out).mono ?_; rintro e w2 ⟨rfl, rfl⟩; rw [H2.out]))
    refine bodyPost_ret (results_four rfl _ _ _) rfl ?_
    exact ⟨HB1.out, .inr ⟨HT.out, rfl⟩⟩
  have H2 := Lib.hid ha
  clear ha
  obtain ⟨hg, r, ds, htr⟩ := treeB_iff.1 H1.out
  obtain ⟨hg1, hg2⟩ := good_len hg
  have hpl : ps.length = N.ends.length := htr.1
  have hn1 : 1 ≤ ps.length := by omega
  have hn2 : ps.length ≤ 40 := by omega
  have HOK : Hid (SumOk N ps vals) := ⟨hg, ⟨r, ds, htr⟩, HL.out, H2.out⟩
  have HTR := Lib.hid htr
  have HG := Lib.hid hg
  obtain ⟨b3, off3, rfl, -, hc3⟩ := HX3.out (by omega)
  have HC3 := Lib.hid hc3
  clear hpl htr hg hc3 HX3
  go_enter Try.func15, Try.ntmps15
  go_wp2_with fail
  refine (C1.out _ (HB0.out _)).mono ?_
  rintro e w1 ⟨rfl, hb1⟩
  rw [H1.out]
  have k1 := box1 hb1
  have HB1 := Lib.hid (Below.then_ (HB0.out _) hb1)
  clear hb1
  go_wp2_with (go_at_call 58; refine (C2.out _ HB1.out).mono ?_; rintro e w2 ⟨rfl, rfl⟩; rw [H2.out])
  refine (C3.out _ HB1.out r ds HG.out HTR.out HL.out H2.out).mono ?_
  rintro e w2 ⟨vs, s, h, rfl, hos, hfin, hab, hmax, hb2⟩
  have HB2 := Lib.hid (Below.then_ HB1.out hb2)
  have HFI := Lib.hid hfin
  have HAB := Lib.hid hab
  have HMX := Lib.hid hmax
  have hsl : s.length = ps.length := hfin.1
  obtain ⟨g, cs, rfl, hgs, hgw, hs1, hs2⟩ := hos.addr (by omega)
  rw [hsl] at hs1 hos ⊢
  have HSL := Lib.hid hsl
  have HCS : Hid (∀ j, j < ps.length → w2.cell? ⟨g, j, none⟩ = some (.int .i64 (gi s j))) := fun j hj => (hos.at_ hsl.symm hj).1
  have HOS := Lib.hid (hos.mono (B' := w.heap.size) HB1.out.size)
  clear hb2 hos hfin hab hmax hsl k1
  go_wp2_with fail
  go_loop [12, 40] (fun bb i => ∃ k : Nat, k ≤ ps.length ∧ i = .int .i64 k ∧ bb = .int .i64 (bitsAll k r s)) (fun _ i => ps.length - (intOf i).toNat)
  case atStart => exact ⟨0, Nat.zero_le _, rfl, rfl⟩
  case round =>
    obtain ⟨k, hk, rfl, rfl⟩ := hrel
    have hbb := bitsPart_le r s k
    have hbs := bitsPart_succ r s k
    by_cases hlt : k < ps.length
    · have hc5 := HC3.out k hlt
      have i1 : w2.cell? ⟨b3, off3 + k, none⟩ = some (.int .i64 (gi ps k)) := (HB2.out.cell (p := ⟨b3, off3 + k, none⟩) (lt_of_cell hc5)).trans hc5
      have i2 := HCS.out k hlt
      clear hc5
      have hab := HAB.out k hlt
      have hbk := bitsN_le (gi s k).natAbs
      by_cases hr : k = r
      · have hneg : gi ps k < 0 := by have := HTR.out.2.2.1; rw [hr, this]; omega
        have HBS : Hid (bitsAll (k + 1) r s = bitsAll k r s) := by rw [hbs]; simp [hr, Hid]
        generalize bitsAll k r s = q at hbb HBS ⊢
        clear hbs hr
        go_wp2_with fail
        go_round
        case rel => exact ⟨k + 1, by omega, by go_num, by rw [HBS.out]⟩
        case measure => simp [intOf]; omega
      · have hpos : 0 ≤ gi ps k := (par_lt HG.out HTR.out.1 hlt (HTR.out.2.2.2.1 k hlt) hr).2.2.1
        have HBS : Hid (bitsAll (k + 1) r s = bitsAll k r s + ((bitsN (gi s k).natAbs : Int) + 1)) := by rw [hbs]; simp [hr, Hid]
        have CB := Lib.hid (biBits_any (gi s k) w2 (by omega) (by omega))
        generalize bitsAll k r s = q at hbb HBS ⊢
        generalize bitsN (gi s k).natAbs = t at hbk HBS CB
        clear hbs hr
        go_wp2_with (go_at_call 60; refine CB.out.mono ?_; rintro e w3 ⟨rfl, rfl⟩)
        go_round
        case rel => exact ⟨k + 1, by omega, by go_num, by rw [HBS.out]⟩
        case measure => simp [intOf]; omega
    · obtain rfl : k = ps.length := by omega
      go_wp2_with fail
      refine bodyPost_ret (results_four rfl _ _ _) rfl ?_
      exact ⟨HB2.out, .inl ⟨HOK.out, _, s, h, _, ⟨r, ds, HTR.out, HFI.out, HMX.out, rfl⟩, rfl, HOS.out⟩⟩
end Go.Proofs.Ytcjghlplkbpjcaa
