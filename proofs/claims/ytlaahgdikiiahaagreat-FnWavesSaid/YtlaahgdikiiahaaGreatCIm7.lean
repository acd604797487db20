/- The program's SumUp: what the reference's gives. -/
import Derived.Test.YtlaahgdikiiahaaGreatCIm6
import Derived.Test.YtlaahgdikiiahaaGreatCJn21
set_option linter.unusedSimpArgs false
set_option linter.unusedVariables false
namespace Go.Proofs.YtlaahgdikiiahaaGreat
open Go.RowKit
attribute [local go_sem] BW.cell BW.frozen
open Go.BigFrame
def before (od : List Int) (k u : Nat) : Bool := (od.take k).contains (u : Int)
theorem before_iff {od : List Int} {k u : Nat} (hk : k ≤ od.length) : before od k u = true ↔ ∃ j, j < k ∧ gi od j = u := by
 unfold before
 rw [List.contains_iff_mem, List.mem_iff_getElem]
 constructor
 ·rintro ⟨j, hj, e⟩
  have hj' : j < k := by simp at hj; omega
  exact ⟨j, hj', by rw [gi_lt (by omega)]; simpa using e⟩
 ·rintro ⟨j, hj, e⟩
  refine ⟨j, by simp; omega, ?_⟩
  rw [gi_lt (by omega)] at e
  simpa using e
theorem before_step {od ds : List Int} {n k : Nat} (hp : od.Perm (upTo n)) (hs : SortedOn (fun x => - gi ds x.toNat) od 0 n) (hk : k < n) :
 ∃ x : Nat, gi od k = x ∧ x < n ∧ before od k x = false ∧ (∀ p, p < n → gi ds p < gi ds x → before od k p = false) ∧ ∀ u, u < n → (before od (k + 1) u = true ↔ before od k u = true ∨ u = x) := by
 have hl : od.length = n := by rw [hp.length_eq, upTo_length]
 have hm : gi od k ∈ upTo n := hp.mem_iff.1 (by rw [gi_lt (by omega)]; exact List.getElem_mem _)
 obtain ⟨h1, h2⟩ := upTo_mem.1 hm
 obtain ⟨x, hx⟩ := Int.eq_ofNat_of_zero_le h1
 refine ⟨x, hx, by omega, ?_, fun p hp1 hp2 => ?_, fun u hu => ?_⟩
 ·rw [← Bool.not_eq_true, before_iff (by omega)]
  rintro ⟨j, hj, e⟩
  have hn : od.Nodup := hp.nodup_iff.2 (upTo_nodup n)
  rw [gi_lt (by omega)] at e hx
  have := (List.getElem_inj hn).1 (e.trans hx.symm)
  omega
 ·rw [← Bool.not_eq_true, before_iff (by omega)]
  rintro ⟨j, hj, e⟩
  have := hs j k (Nat.zero_le _) hj (by omega)
  rw [hx, e] at this
  simp only [Int.toNat_natCast] at this
  omega
 ·rw [before_iff (by omega), before_iff (by omega)]
  constructor
  ·rintro ⟨j, hj, e⟩
   by_cases h : j = k
   ·subst h; exact .inr (by omega)
   ·exact .inl ⟨j, by omega, e⟩
  ·rintro (⟨j, hj, e⟩ | rfl)
   ·exact ⟨j, by omega, e⟩
   ·exact ⟨k, by omega, hx⟩
theorem before_all {od : List Int} {n u : Nat} (hp : od.Perm (upTo n)) (hu : u < n) : before od n u = true := by
 have hl : od.length = n := by rw [hp.length_eq, upTo_length]
 rw [before_iff (by omega)]
 obtain ⟨j, hj, e⟩ := List.getElem_of_mem (hp.mem_iff.2 ((upTo_mem (n := n) (x := (u : Int))).2 (by omega)))
 exact ⟨j, by omega, by rw [gi_lt hj]; exact e⟩
set_option maxRecDepth 100000 in
set_option maxHeartbeats 2000000 in
theorem implSumUp_any {S S' S'' : Nat → Prop} (v u x : Value) (N : Net) (ps vals : List Int) (w : World) (h : NetR w S v N) (hp : IntsR w S' u ps) (hv : IntsR w S'' x vals) (hsh : N.ids.length ≤ 2097152) (hvl : vals.length ≤ 2097152) :
 Calls Tryz.prog 16 #[v, u, x] w (RetSum N ps vals w) := by
 have C1 := Lib.hid (fun (W : World) (hW : Below w.heap.size w W) => IsNetwork_any v N W (h.below hW) hsh)
 have C2 := Lib.hid (fun (W : World) (hW : Below w.heap.size w W) => allWithin_any x vals (-1000000) 1000000 W (hv.below hW))
 have C3 := Lib.hid (fun (W : World) (hW : Below w.heap.size w W) => treeDepths_any v u N ps W (h.below hW) (hp.below hW))
 have C4 := Lib.hid (fun (W : World) (hW : Below w.heap.size w W) => Clone_int x vals W (hv.below hW) hvl)
 obtain ⟨ve, vi, vn, rfl, he, hi, hn⟩ := h
 obtain ⟨A, c, rfl, hnc, hm, hx⟩ := he
 obtain ⟨A1, c1, rfl, -, -, -⟩ := hi
 obtain ⟨A2, c2, rfl, -, -, -⟩ := hn
 obtain ⟨A3, c3, rfl, hn3, hm3, hx3⟩ := hp
 obtain ⟨A4, c4, rfl, -, -, -⟩ := hv
 unfold maxLen at hm hm3
 have HX := Lib.hid hx
 have HX3 := Lib.hid hx3
 have hb0 : ∀ o1, Below w.heap.size w (w.alloc o1) := fun o1 => (Below.refl _ _).alloc (Nat.le_refl _) _
 have HB0 := Lib.hid hb0
 clear hb0 hx3 hx
 cases ht : goodB N
 ·have HT : Hid (¬ SumOk N ps vals) := fun h => by have := h.1; rw [ht] at this; cases this
  have H1 := Lib.hid ht
  clear ht
  go_enter Tryz.func16, Tryz.ntmps16
  go_wp2_with (go_at_call 32; refine (C1.out _ (HB0.out _)).mono ?_; rintro e w1 ⟨rfl, hb1⟩; rw [H1.out]; have HB1 := Lib.hid (Below.then_ (HB0.out _) hb1); clear hb1)
  refine bodyPost_ret (results_four rfl _ _ _) rfl ?_
  exact ⟨HB1.out, .inr ⟨HT.out, rfl⟩⟩
 have H1 := Lib.hid ht
 obtain ⟨hg1, hg2⟩ := good_len ht
 clear ht
 by_cases hl : vals.length = N.ends.length
 case neg =>
  have HT : Hid (¬ SumOk N ps vals) := fun h => by
   obtain ⟨r, ds, t⟩ := h.2.1
   exact hl (h.2.2.1.trans t.1)
  have e1 : (((vals.length : Nat) : Int) != ((N.ends.length : Nat) : Int)) = true := by simp; omega
  clear hl
  go_enter Tryz.func16, Tryz.ntmps16
  go_wp2_with (go_at_call 32; refine (C1.out _ (HB0.out _)).mono ?_; rintro e w1 ⟨rfl, hb1⟩; rw [H1.out]; have k1 := box1 hb1; have HB1 := Lib.hid (Below.then_ (HB0.out _) hb1); clear hb1)
  refine bodyPost_ret (results_four rfl _ _ _) rfl ?_
  exact ⟨HB1.out, .inr ⟨HT.out, rfl⟩⟩
 have e1 : (((vals.length : Nat) : Int) != ((N.ends.length : Nat) : Int)) = false := by simp [hl]
 have HL := Lib.hid hl
 clear hl
 cases ha : allB vals (-1000000) 1000000
 ·have HT : Hid (¬ SumOk N ps vals) := fun h => by have := h.2.2.2; rw [ha] at this; cases this
  have H2 := Lib.hid ha
  clear ha
  go_enter Tryz.func16, Tryz.ntmps16
  go_wp2_with fail
  refine (C1.out _ (HB0.out _)).mono ?_
  rintro e w1 ⟨rfl, hb1⟩
  rw [H1.out]
  have k1 := box1 hb1
  have HB1 := Lib.hid (Below.then_ (HB0.out _) hb1)
  clear hb1
  go_wp2_with fail
  refine (C2.out _ HB1.out).mono ?_
  rintro e w2 ⟨rfl, hb2⟩
  rw [H2.out]
  have HB2 := Lib.hid (Below.then_ HB1.out hb2)
  clear hb2 k1
  go_wp2_with fail
  refine bodyPost_ret (results_four rfl _ _ _) rfl ?_
  exact ⟨HB2.out, .inr ⟨HT.out, rfl⟩⟩
 have H2 := Lib.hid ha
 clear ha
 obtain ⟨b, off, rfl, -, hc⟩ := HX.out (by omega)
 have HC := Lib.hid hc
 clear hc HX
 go_enter Tryz.func16, Tryz.ntmps16
 go_wp2_with fail
 refine (C1.out _ (HB0.out _)).mono ?_
 rintro e w1 ⟨rfl, hb1⟩
 rw [H1.out]
 have HK1 := Lib.hid (Blk.below (Blk.new w _ _) hb1)
 have HB1 := Lib.hid (Below.then_ (HB0.out _) hb1)
 have k1 := HK1.out.cell
 clear hb1
 go_wp2_with fail
 refine (C2.out _ HB1.out).mono ?_
 rintro e w2 ⟨rfl, hb2⟩
 rw [H2.out]
 have HK2 := Lib.hid (HK1.out.below hb2)
 have HB2 := Lib.hid (Below.then_ HB1.out hb2)
 clear hb2 k1 HB1 HK1 C1 C2
 have k2 := HK2.out.cell
 go_wp2_with fail
 refine (C3.out _ HB2.out H1.out).mono ?_
 rintro e w3 ⟨hb3, hres⟩
 rcases hres with ⟨r, ds, vd, htr, rfl, hod⟩ | ⟨hno, rfl⟩
 case inr =>
  have HB3 := Lib.hid (Below.then_ HB2.out hb3)
  have HT : Hid (¬ SumOk N ps vals) := fun h => hno h.2.1
  clear hb3 hno k2
  go_wp2_with fail
  refine bodyPost_ret (results_four rfl _ _ _) rfl ?_
  exact ⟨HB3.out, .inr ⟨HT.out, rfl⟩⟩
 have HTR := Lib.hid htr
 have hdl : ds.length = ps.length := htr.2.2.2.2.1
 have hpl : ps.length = N.ends.length := htr.1
 have HOK : Hid (SumOk N ps vals) := ⟨H1.out, ⟨r, ds, htr⟩, HL.out.trans hpl.symm, H2.out⟩
 have hn1 : 1 ≤ ps.length := by omega
 have hn2 : ps.length ≤ 40 := by omega
 have hn3 : ps.length ≤ N.ends.length := by omega
 have HVL := Lib.hid (HL.out.trans hpl.symm)
 have HK3 := Lib.hid (HK2.out.below hb3)
 have HB3 := Lib.hid (Below.then_ HB2.out hb3)
 have HOD := Lib.hid hod
 have HDL := Lib.hid hdl
 obtain ⟨b3, off3, rfl, -, hc3⟩ := HX3.out (by omega)
 have HC3 := Lib.hid hc3
 obtain ⟨gd, cd, rfl, -, hgd, hd1, hd2⟩ := hod.addr (by omega)
 clear htr hdl hpl hb3 hod hc3 HX3 k2 HK2 HB2 C3 HL
 go_wp2_with fail
 refine (C4.out _ HB3.out).mono ?_
 rintro e w4 ⟨vs, rfl, hos, hb4⟩
 obtain ⟨g, cs, rfl, hgs, hgw, hs1, hs2⟩ := hos.addr (by have := HVL.out; omega)
 have hos' : OwnI w4 w3.heap.size (.slice (some ⟨g, 0, none⟩) ps.length cs) vals := by rw [HVL.out] at hos; exact hos
 rw [HVL.out] at hs1 ⊢
 have HOS := Lib.hid hos'
 have HB4 := Lib.hid hb4
 clear hos hos' hb4 C4
 go_wp2_with fail
 refine (upwards_any _ ds w4 (HOD.out.below HB4.out).ints (by have := HDL.out; omega) (by have := HDL.out; omega) (fun j hj => by have := HTR.out.zero (v := j) (by have := HDL.out; omega); omega)).mono ?_
 rintro e w5 ⟨vo, od, rfl, hoo, hop, hosr, hb5⟩
 rw [HDL.out] at hop hosr
 have hol : od.length = ps.length := by rw [hop.length_eq, upTo_length]
 obtain ⟨go, co, rfl, hgo1, hgo2, ho1, ho2⟩ := hoo.addr (by omega)
 rw [hol] at hoo ho1 ⊢
 have HOL := Lib.hid hol
 have HOP := Lib.hid hop
 have HSR := Lib.hid hosr
 have HCO : Hid (∀ j, j < ps.length → w5.cell? ⟨go, j, none⟩ = some (.int .i64 (gi od j))) := fun j hj => (hoo.at_ hol.symm hj).1
 have HO5 := Lib.hid (HOS.out.below hb5)
 have HK5 := Lib.hid ((HK3.out.below HB4.out).below hb5)
 have HB5 := Lib.hid (Below.then_ HB3.out (Below.then_ HB4.out hb5))
 have HOD5 := Lib.hid ((HOD.out.below HB4.out).below hb5)
 have HB35 := Lib.hid (Below.then_ HB4.out hb5)
 have HST := Lib.hid (SInv.start (par N ps) r (V := before od 0) HVL.out (fun u hu => by simp [before]) (fun u hu => by
  have := inB_iff.1 (allB_iff.1 H2.out u (by have := HVL.out; omega)); omega))
 clear hop hosr hoo hb5 hol
 have hne : go ≠ g := by omega
 have HLT := Lib.hid HK3.out.lt
 go_wp2_with fail
 go_loopw [14, 47] (fun vq vi wr => ∃ (k : Nat) (s : List Int) (q : Int), k ≤ ps.length ∧ vi = .int .i64 k ∧ vq = .int .i64 q ∧ q = sentBy ps.length r s (before od k) ∧ 0 ≤ q ∧ q ≤ k * 65 ∧ OwnI wr w3.heap.size (.slice (some ⟨g, 0, none⟩) ps.length cs) s ∧
  SInv ps.length (par N ps) r (ps.length * 1000000) vals s (before od k) ∧ w5.grownBy wr (some g))
  (fun _ vi _ => ps.length - (intOf vi).toNat)
 case atStart => exact ⟨0, vals, 0, Nat.zero_le _, rfl, rfl, HST.out.2.symm, by omega, by omega, HO5.out, HST.out.1, World.grownBy.refl _ _⟩
 case round =>
  obtain ⟨k, s, q, hk, rfl, rfl, hq, hq1, hq2, hown, hinv, hgr⟩ := hrel
  have HQ := Lib.hid hq
  have HOW := Lib.hid hown
  have HIN := Lib.hid hinv
  have HGR := Lib.hid hgr
  clear hq hown hinv hgr
  by_cases hlt : k < ps.length
  ·obtain ⟨x, hx1, hx2, hx3, hx4, hx5⟩ := before_step HOP.out HSR.out hlt
   have hco : wr.cell? ⟨go, k, none⟩ = some (.int .i64 (x : Int)) := by
    rw [World.cell?_of_block (w := w5) (HGR.out.block go hgo2 (by simp; omega)), HCO.out k hlt, hx1]
   have i3 : (x : Int) < (ps.length : Int) := by omega
   by_cases hr : x = r
   ·have e2 : (((x : Nat) : Int) != ((r : Nat) : Int)) = false := by simp [hr]
    have HN : Hid (SInv ps.length (par N ps) r (ps.length * 1000000) vals s (before od (k + 1)) ∧ sentBy ps.length r s (before od (k + 1)) = sentBy ps.length r s (before od k)) := by
     refine HIN.out.skip (fun u hu hur => ?_) (fun h => ?_)
     ·rw [Bool.eq_iff_iff, hx5 u hu]
      constructor
      ·rintro (h | h)
       ·exact h
       ·omega
      ·exact .inl
     ·exact (hx5 r (by omega)).2 (.inl h)
    clear hx1 hx3 hx4 hx5 hr
    as_aux_lemma =>
    go_wp2_with fail
    go_roundw
    case rel => exact ⟨k + 1, s, q, by omega, by go_num, rfl, by rw [HN.out.2]; exact HQ.out, hq1, by omega, HOW.out, HN.out.1, HGR.out⟩
    case measure => simp [intOf]; omega
   ·have e2 : (((x : Nat) : Int) != ((r : Nat) : Int)) = true := by simp; omega
    obtain ⟨hp1, hp2, hp3, hp4⟩ := par_lt H1.out HTR.out.1 hx2 (HTR.out.2.2.2.1 x hx2) hr
    obtain ⟨hpd1, hpd2, hpd3⟩ := HTR.out.par H1.out hx2 hr
    obtain ⟨u, hu, A4, c4, rfl, hn4, hm4, hc4⟩ := HC.out x (by omega)
    unfold maxLen at hm4
    obtain ⟨b4, off4, rfl, -, hc4'⟩ := hc4 (by omega)
    have hq1' := (hc4' (gi ps x).toNat hp4).1
    rw [hp2] at hq1'
    have hc5 := HC3.out x hx2
    obtain ⟨p, hpe⟩ : ∃ p, p = gi ps x := ⟨_, rfl⟩
    rw [← hpe] at hq1' hc5 hp3 hp4
    have hold : ∀ b o, b < w.heap.size → wr.cell? ⟨b, o, none⟩ = w.cell? ⟨b, o, none⟩ := fun b o hb => by
     rw [World.cell?_of_block (w := w5) (HGR.out.block b (by have := HB5.out.size; omega) (by have := HB3.out.size; simp; omega))]
     exact HB5.out.cell (p := ⟨b, o, none⟩) hb
    have i1 : wr.cell? ⟨b, off + x, none⟩ = some (.slice (some ⟨b4, off4, none⟩) (gl N.ends x).length c4) := (hold _ _ (lt_of_cell hu)).trans hu
    have i2 : wr.cell? ⟨b3, off3 + x, none⟩ = some (.int .i64 p) := (hold _ _ (lt_of_cell hc5)).trans hc5
    have i3' : wr.cell? ⟨b4, off4 + p.toNat * 2, none⟩ = some (.int .i64 (par N ps x : Nat)) := (hold _ _ (lt_of_cell hq1')).trans hq1'
    have hk0 : Blk wr w.heap.size _ _ := HK5.out.grown HGR.out (by have := HLT.out; simp; omega)
    have i4 := hk0.cell
    have hsl : ps.length = s.length := HIN.out.len.symm
    obtain ⟨i5, -⟩ := HOW.out.at_ hsl hx2
    obtain ⟨i6, i7⟩ := HOW.out.at_ hsl hp1
    have hab1 := HIN.out.abs hx2
    have hab2 := HIN.out.abs hp1
    have HNE : Hid (par N ps x ≠ x) := fun e => by rw [e] at hpd2; omega
    have hst := HIN.out.step (V' := before od (k + 1)) hx2 hr hx3 hp1 (hx4 _ hp1 (by omega)) HNE.out hx5
    have hpn : par N ps x < ps.length := hp1
    obtain ⟨y, hy⟩ : ∃ y, y = par N ps x := ⟨_, rfl⟩
    obtain ⟨sk, hsk⟩ : ∃ sk, sk = gi s x := ⟨_, rfl⟩
    obtain ⟨sq, hsq⟩ : ∃ sq, sq = gi s y := ⟨_, rfl⟩
    rw [← hy] at i3' i6 i7 hst hpn hab2 HNE
    rw [← hsk] at i5 hst hab1
    rw [← hsq] at i6 hst hab2
    have HST := Lib.hid hst
    have j0 : -40000000 ≤ sk ∧ sk ≤ 40000000 ∧ -40000000 ≤ sq ∧ sq ≤ 40000000 := by
     have : (ps.length : Int) * 1000000 ≤ 40000000 := by omega
     omega
    obtain ⟨j5, j6, j7, j8⟩ := j0
    have j1 : (0 : Int) ≤ (x : Int) := by omega
    have j2 : (x : Int) < (N.ends.length : Int) := by omega
    have j4 : p < ((gl N.ends x).length : Int) := by omega
    have j9 : (0 : Int) ≤ (y : Int) := by omega
    have j10 : (y : Int) < (ps.length : Int) := by omega
    have hw1 : IntKind.i64.wrap (sq + sk) = sq + sk := IntWalk.i64_in _ (by omega)
    have HOP' := Lib.hid (HOW.out.put hsl (j := y) (sq + sk))
    have HGP := Lib.hid (grown_put HGR.out y (.int .i64 (sq + sk)))
    have hld : (wr.setCell ⟨g, y, none⟩ (.int .i64 (sq + sk))).cell? ⟨g, x, none⟩ = some (.int .i64 sk) := by
     rw [(HOP'.out.at_ (by rw [List.length_set]; exact hsl) hx2).1, HST.out.2.2]
    have HLD := Lib.hid hld
    have CB := Lib.hid (fun W => bitsOf_any sk W (by omega) (by omega))
    have hbk := bitsN_le sk.natAbs
    obtain ⟨t, hbt⟩ : ∃ t, t = bitsN sk.natAbs := ⟨_, rfl⟩
    rw [← hbt] at hbk CB HST
    clear hc4 hc4' hq1' hc5 hpe hp2 hu hst hab1 hab2 hy hsk hsq hpd1 hpd2 hpd3 hsl hp1 hold hld hx1 hx3 hx4 hx5 hbt hk0 hr
    as_aux_lemma =>
    go_wp2_with fail
    go_still_tail 21, (by kernel_rfl)
    change wpList _ _ _ _ _ wr.drew
    have hld' : (wr.drew.setCell ⟨g, y, none⟩ (.int .i64 (sq + sk))).cell? ⟨g, x, none⟩ = some (.int .i64 sk) := HLD.out
    have hld'' : (wr.setCell ⟨g, y, none⟩ (.int .i64 (sq + sk))).drew.cell? ⟨g, x, none⟩ = some (.int .i64 sk) := HLD.out
    have hld3 := HLD.out
    go_wp2_with (go_at_call 47; refine (CB.out _).mono ?_; rintro e w6 ⟨rfl, rfl⟩)
    go_roundw
    case rel => exact ⟨k + 1, s.set y (sq + sk), q + (t + 1), by omega, by go_num, rfl, by rw [HST.out.2.1, ← HQ.out], by omega, by omega, HOP'.out, HST.out.1, grown_drewN HGP.out 1⟩
    case measure => simp [intOf]; omega
  ·obtain rfl : k = ps.length := by omega
   have HFN := Lib.hid (HIN.out.final fun u hu _ => before_all HOP.out hu)
   have HBE : Hid (Below w3.heap.size w3 wr) := HB35.out.grown HGR.out HB35.out.size (fun j hj => by cases hj; omega)
   have HMX := Lib.hid (Max_any (S := fun _ => True) _ ds wr (((HOD.out.below HBE.out).ints).weak fun _ _ => trivial) (by have := HDL.out; omega))
   go_wp2_with fail
   refine HMX.out.mono ?_
   rintro e w7 ⟨h, rfl, hmx, rfl⟩
   have HMA := Lib.hid hmx
   clear hmx
   go_wp2_with fail
   refine bodyPost_ret (results_four rfl _ _ _) rfl ?_
   refine ⟨Below.then_ HB3.out HBE.out, .inl ⟨HOK.out, _, s, h, q, ⟨r, ds, HTR.out, HFN.out.1, HMA.out, by rw [HQ.out, HFN.out.2]⟩, rfl, HOW.out.mono HB3.out.size⟩⟩
end Go.Proofs.YtlaahgdikiiahaaGreat
