/- The program's copy of a network; WithInputs. -/
import Derived.Test.YtdiiggpohcjppaaGreatCJn8
import Derived.Test.YtdiiggpohcjppaaGreatCIm4
import Derived.Test.YtdiiggpohcjppaaGreatCJn6
import Derived.Test.YtdiiggpohcjppaaGreatCMkl
set_option linter.unusedSimpArgs false
set_option linter.unusedVariables false
namespace Go.Proofs.YtdiiggpohcjppaaGreat
open Go.RowKit
def Z5 (w : World) (es : List (Int × Int)) (e : Ending) (w' : World) : Prop := ∃ v, e = .returned v ∧ OwnE w' w.heap.size v es ∧ Below w.heap.size w w'
set_option maxRecDepth 100000 in
set_option maxHeartbeats 1000000 in
theorem K9 {S : Nat → Prop} (v : Value) (es : List (Int × Int)) (w : World) (h : EndsR w S v es) (hn : es.length ≤ 1048576) :
 Calls Tryz.prog 128 #[v] w (Z5 w es) := by
 have HR := Lib.hid h
 obtain ⟨A, c, rfl, hnc, hm, hx⟩ := h
 rcases A with _ | ⟨b, off, sp⟩
 ·have h0 : es.length = 0 := by
   rcases Nat.eq_zero_or_pos es.length with h | h
   ·exact h
   ·obtain ⟨b, off, hA, _⟩ := hx h
    cases hA
  obtain rfl : es = [] := List.eq_nil_of_length_eq_zero h0
  have hnil : ∀ W, (binOp .eql 82 (.slice none 0 c) (.slice none 0 0)).run Tryz.prog W = .ok (.bool true) W := fun W => Lib.run_eql_slice_nil W _ _ none 0 c 0 0 Tryz.underlying82
  clear hx h0
  go_enter Tryz.func128, Tryz.ntmps128
  go_wp2_with fail
  go_ret
  exact ⟨_, rfl, OwnE.nil, Below.refl _ _⟩
 ·have hnil : ∀ W, (binOp .eql 82 (.slice (some ⟨b, off, sp⟩) es.length c) (.slice none 0 0)).run Tryz.prog W = .ok (.bool false) W := fun W => Lib.run_eql_slice_nil W _ _ (some ⟨b, off, sp⟩) es.length c 0 0 Tryz.underlying82
  clear hx
  go_enter Tryz.func128, Tryz.ntmps128
  go_wp2_with (at_builtin; refine r5 _ rfl (.tmp 5) (.tmp 6) rfl w.heap.size _ [] rfl (OwnE.made _ rfl (Nat.le_refl _)) _ es rfl (HR.out.below ((Below.refl _ _).alloc (Nat.le_refl _) _)) (by simp; omega) (by simp) ?_; intro A5 c5 w5 ho5 hg5 hl5)
  have HB : Hid (Below w.heap.size w w5) := Lib.hid (((Below.refl w.heap.size w).alloc (Nat.le_refl _) _).grown hg5 (by simp) (fun g hg => by cases hg; exact Nat.le_refl _))
  have HO := Lib.hid ho5
  clear ho5 hg5 hl5
  go_wp2_with fail
  go_ret
  exact ⟨_, rfl, by simpa using HO.out, HB.out⟩
theorem Qk {w : World} {g n : Nat} {t : TypeId} {f : Nat → Value} (h : w.rowIs g t n f) : g < w.heap.size := by
 obtain ⟨c, hc, _⟩ := h
 exact (Array.getElem?_eq_some_iff.1 hc).1
theorem OwnEs.fresh {w0 w2 : World} {B gE n cap i : Nat} {u' : Value} {ess : List (List (Int × Int))} {es' : List (Int × Int)} (h : OwnEs w0 B (.slice (some ⟨gE, 0, none⟩) n cap) ess) (hn : n = ess.length) (hlt : i < ess.length) (hb : Below w0.heap.size w0 w2) (ho : OwnE w2 w0.heap.size u' es') (hB : B ≤ w0.heap.size) :
 OwnEs (w2.setCell ⟨gE, i, none⟩ u') B (.slice (some ⟨gE, 0, none⟩) n cap) (ess.set i es') := by
 subst hn
 obtain ⟨us, hv, hi, hd⟩ := h
 have hgt := yz hv gE rfl
 have hgl := World.ownsRow.lt hv gE rfl
 have hv2 : w2.ownsRow B 82 1 (.slice (some ⟨gE, 0, none⟩) ess.length cap) ess.length ((List.range ess.length).map us) := by
  refine ⟨hv.1, ?_⟩
  rcases hv.2 with h4 | ⟨g, cap', cur, h1, hB, hh, hr⟩
  ·exact .inl h4
  ·exact .inr ⟨g, cap', cur, h1, hB, (hb.block g (Array.getElem?_eq_some_iff.1 hh).1).trans hh, hr⟩
 have hk3 : KeptBut 82 w2 (w2.setCell ⟨gE, i, none⟩ u') := by
  obtain ⟨cs, fr, h1⟩ := hgt
  exact KeptBut.of_set (p := ⟨gE, i, none⟩) ((hb.block gE hgl.2).trans h1) _
 have hst := (World.ownsRow.stored hv2 i u').1
 rw [Nl] at hst
 have ln : (ess.set i es').length = ess.length := List.length_set
 refine ⟨fun j => if j = i then u' else us j, by rw [ln]; exact hst, fun j hj => ?_, fun a b ha hb' hne g hga => ?_⟩
 ·rw [ln] at hj
  rw [jd hlt]
  by_cases h : j = i
  ·subst h
   simp only [if_true]
   exact (ho.mono hB).but hk3 (by decide)
  ·simp only [h, if_false]
   exact ((hi j hj).below hb).but hk3 (by decide)
 ·rw [ln] at ha hb'
  by_cases h : a = i
  ·subst h
   simp only [if_true] at hga
   have hb2 : ¬ b = a := fun e => hne e.symm
   simp only [hb2, if_false]
   intro e
   have a1 := ((hi b hb').lt g e).2
   have a2 := (ho.lt g hga).1
   omega
  ·simp only [h, if_false] at hga
   by_cases h2 : b = i
   ·subst h2
    simp only [if_true]
    intro e
    have a1 := ((hi a ha).lt g hga).2
    have a2 := (ho.lt g e).1
    omega
   ·simp only [h2, if_false]
    exact hd a b ha hb' hne g hga
def pd (ess : List (List (Int × Int))) (j : Nat) : List (List (Int × Int)) := ess.take j ++ List.replicate (ess.length - j) []
theorem Nu (ess : List (List (Int × Int))) {j : Nat} (h : j ≤ ess.length) : (pd ess j).length = ess.length := by unfold pd; simp; omega
theorem Jp (ess : List (List (Int × Int))) : pd ess 0 = List.replicate ess.length [] := by simp [pd]
theorem Nv (ess : List (List (Int × Int))) : pd ess ess.length = ess := by simp [pd]
theorem Nt (ess : List (List (Int × Int))) {j : Nat} (h : j < ess.length) : (pd ess j).set j (gl ess j) = pd ess (j + 1) := by
 unfold pd
 rw [List.set_append_right _ _ (by simp; omega), show ess.length - j = (ess.length - (j + 1)) + 1 by omega, List.replicate_succ]
 have : j - (ess.take j).length = 0 := by simp; omega
 rw [this, List.set_cons_zero, List.take_succ_eq_append_getElem h, List.append_assoc, ge h]
 rfl
def Ya (N : Net) : Prop := N.ends.length ≤ 1048576 ∧ (∀ i, i < N.ends.length → (gl N.ends i).length ≤ 1048576) ∧ N.ids.length ≤ 2097152 ∧ N.inputs.length ≤ 2097152
set_option maxRecDepth 100000 in
set_option maxHeartbeats 2000000 in
theorem yr {S : Nat → Prop} (v : Value) (N : Net) (w : World) (h : NetR w S v N) (hf : Ya N) :
 Calls Tryz.prog 77 #[v] w (S5 w N) := by
 obtain ⟨hf1, hf2, hf3, hf4⟩ := hf
 obtain ⟨ve, vi, vn, rfl, he, hi, hn⟩ := h
 have HE := Lib.hid he
 have HI := Lib.hid hi
 have HN := Lib.hid hn
 have HF2 := Lib.hid hf2
 obtain ⟨A, c, rfl, -, -, -⟩ := he
 obtain ⟨A1, c1, rfl, -, -, -⟩ := hi
 obtain ⟨A2, c2, rfl, -, -, -⟩ := hn
 clear hf2
 have hm2 := fun W => Go.run_make_row' (P := Tryz.prog) 24 82 (.slice none 0 0) 24 Tryz.underlying24 Fi rfl .i64 .i64 N.ends.length (by omega) (by omega) W
 have HB0 := Lib.hid (((Below.refl w.heap.size w).alloc (Nat.le_refl _) (.cells #[.slice A N.ends.length c, .slice A1 N.ids.length c1, .slice A2 N.inputs.length c2] 27)).alloc (by simp) (.cells #[.slice none 0 0, .slice none 0 0, .slice none 0 0] 27))
 have HK1 : Hid (Blk ((w.alloc (.cells #[.slice A N.ends.length c, .slice A1 N.ids.length c1, .slice A2 N.inputs.length c2] 27)).alloc (.cells #[.slice none 0 0, .slice none 0 0, .slice none 0 0] 27)) w.heap.size 27 #[.slice A N.ends.length c, .slice A1 N.ids.length c1, .slice A2 N.inputs.length c2]) := Lib.hid ((Blk.new _ _ _).alloc _)
 have HK2 : Hid (Blk ((w.alloc (.cells #[.slice A N.ends.length c, .slice A1 N.ids.length c1, .slice A2 N.inputs.length c2] 27)).alloc (.cells #[.slice none 0 0, .slice none 0 0, .slice none 0 0] 27)) (w.heap.size + 1) 27 #[.slice none 0 0, .slice none 0 0, .slice none 0 0]) := Lib.hid (by
  have := Blk.new (w.alloc (.cells #[.slice A N.ends.length c, .slice A1 N.ids.length c1, .slice A2 N.inputs.length c2] 27)) 27 #[.slice none 0 0, .slice none 0 0, .slice none 0 0]
  simpa using this)
 go_enter Tryz.func77, Tryz.ntmps77
 go_wp2_with fail
 generalize (w.alloc (.cells #[.slice A N.ends.length c, .slice A1 N.ids.length c1, .slice A2 N.inputs.length c2] 27)).alloc (.cells #[.slice none 0 0, .slice none 0 0, .slice none 0 0] 27) = wa at *
 have hlt : w.heap.size + 1 < wa.heap.size := HK2.out.lt
 have kc : ∀ (x : BW wa) i, x.wd.cell? ⟨w.heap.size, i, none⟩ = (#[.slice A N.ends.length c, .slice A1 N.ids.length c1, .slice A2 N.inputs.length c2] : Array Value)[i]? := fun x i => (x.cell _ _ (by omega)).trans (HK1.out.cell i)
 refine oe (fun i => match i with | 3 => some (mkZ 82 (.slice none 0 0) N.ends.length) | 6 => some (mkI N.ids) | 9 => some (mkI N.inputs) | 11 => some (mkB1 27 #[.slice none 0 0, .slice none 0 0, .slice none 0 0]) | _ => none) 12 1000 (by kernel_rfl) (by kernel_rfl) (by intro o ho; first | (cases ho; done) | (cases ho; intro _ _ _ _ h; exact h)) ?_
 simp only [List.take_succ_cons, List.take_zero, List.drop_succ_cons, List.drop_zero]
 refine iy 3 _ _ _ rfl rfl ?_
 simp only [List.take_succ_cons, List.take_zero, List.drop_succ_cons, List.drop_zero]
 repeat (go_big_quiet_step (fail))
 refine wpQuiet_nil ?_
 refine ma _ 9 rfl rfl (by simp) (fun x hneed => by { go_wp2_with fail; exact mkZ.gives }) rfl ?_
 rintro v9 b9 e9 ⟨g9, rfl⟩
 simp only [Act.put, List.setIfInBounds_toArray, List.set_cons_zero, List.set_cons_succ]
 refine iy 2 _ _ _ rfl rfl ?_
 simp only [List.take_succ_cons, List.take_zero, List.drop_succ_cons, List.drop_zero]
 repeat (go_big_quiet_step (fail))
 refine wpQuiet_nil ?_
 refine ma _ 12 rfl rfl (by simp) (fun x hneed => by { go_wp2_with (go_at_call 107; refine (xo _ _ _ (HI.out.below (Below.then_ HB0.out x.h)) hf3).mono ?_; rintro e x' ⟨v, rfl, ho, hb⟩); exact mkI.gives hb ho }) rfl ?_
 rintro v12 b12 e12 ⟨A12, c12, rfl⟩
 simp only [Act.put, List.setIfInBounds_toArray, List.set_cons_zero, List.set_cons_succ]
 refine iy 2 _ _ _ rfl rfl ?_
 simp only [List.take_succ_cons, List.take_zero, List.drop_succ_cons, List.drop_zero]
 repeat (go_big_quiet_step (fail))
 refine wpQuiet_nil ?_
 refine ma _ 15 rfl rfl (by simp) (fun x hneed => by { go_wp2_with (go_at_call 107; refine (xo _ _ _ (HN.out.below (Below.then_ HB0.out x.h)) hf4).mono ?_; rintro e x' ⟨v, rfl, ho, hb⟩); exact mkI.gives hb ho }) rfl ?_
 rintro v15 b15 e15 ⟨A15, c15, rfl⟩
 simp only [Act.put, List.setIfInBounds_toArray, List.set_cons_zero, List.set_cons_succ]
 refine iy 1 _ _ _ rfl rfl ?_
 simp only [List.take_succ_cons, List.take_zero, List.drop_succ_cons, List.drop_zero]
 repeat (go_big_quiet_step (fail))
 refine wpQuiet_nil ?_
 refine ma _ 3 rfl rfl (by simp) (fun x hneed => by { go_wp2_with fail; exact mkB1.gives }) rfl ?_
 rintro v3 b3 e3 ⟨g3, rfl⟩
 simp only [Act.put, List.setIfInBounds_toArray, List.set_cons_zero, List.set_cons_succ]
 rintro x hbx ⟨F3, F15, F12, F9, -⟩ hdis hord
 obtain ⟨g, hg9, hb9, he9, hr9⟩ := F9
 cases hg9
 obtain ⟨h12, l12⟩ := F12
 obtain ⟨h15, l15⟩ := F15
 obtain ⟨g, hg3, hb3, he3, hr3⟩ := F3
 cases hg3
 simp only [Dis, List.pairwise_cons, List.mem_cons, List.not_mem_nil, forall_eq_or_imp, or_false, false_or, forall_eq] at hdis hord
 have hdx := Lib.hid hdis
 have HBx := Lib.hid hbx
 have h3c := hr3.cell
 have h3f := hr3.free
 have HK3 := Lib.hid hr3
 have HZ := Lib.hid (OwnEs.of_rowIs hr9 (B := wa.heap.size) (by omega) (by unfold maxLen; omega))
 have HO1 := Lib.hid (h12.mono (B' := wa.heap.size) (by omega))
 have HO2 := Lib.hid (h15.mono (B' := wa.heap.size) (by omega))
 have HX1 : Hid (∀ g, (Value.slice A12 N.ids.length c12).ownBlock = some g → (Value.slice A15 N.inputs.length c15).ownBlock ≠ some g) := Lib.hid fun g e1 e2 => by
  have a1 := l12 g e1; have a2 := (h12.blk g e1).1; have a3 := l15 g e2; have a4 := (h15.blk g e2).1
  omega
 have HX2 : Hid (∀ g, (Value.slice A12 N.ids.length c12).ownBlock = some g → g ≠ g3) := Lib.hid fun g e1 e2 => by
  have a1 := l12 g e1; have a2 := (h12.blk g e1).1
  omega
 have HX3 : Hid (∀ g, (Value.slice A15 N.inputs.length c15).ownBlock = some g → g ≠ g3) := Lib.hid fun g e1 e2 => by
  have a3 := l15 g e1; have a4 := (h15.blk g e1).1
  omega
 have hg39 : g9 ≠ g3 := by omega
 have hg30 : g3 ≠ w.heap.size := by omega
 have HK4 := Lib.hid (HK1.out.below hbx)
 have HK5 := Lib.hid (HK2.out.below hbx)
 have k4c := HK4.out.cell
 have hbx3 : wa.heap.size ≤ g3 := by omega
 have hbx9 : wa.heap.size ≤ g9 ∧ g9 < x.heap.size := by have := HBx.out.size; have := Qk hr9; omega
 clear hr9 h12 h15 l12 l15 hdis hdx hr3 hbx
 go_wp2_with fail
 have hkb := zx (x := .slice (some ⟨g9, 0, none⟩) N.ends.length N.ends.length) (y := .slice A12 N.ids.length c12) (z := .slice A15 N.inputs.length c15) HK3.out
 have FZ := Lib.hid ((HZ.out.but hkb (by decide) (by decide)))
 have FO1 := Lib.hid (HO1.out.but hkb (by decide))
 have FO2 := Lib.hid (HO2.out.but hkb (by decide))
 have FK3 := Lib.hid (mg (x := .slice (some ⟨g9, 0, none⟩) N.ends.length N.ends.length) (y := .slice A12 N.ids.length c12) (z := .slice A15 N.inputs.length c15) HK3.out)
 have FB := Lib.hid (ki HBx.out hbx3 (.slice (some ⟨g9, 0, none⟩) N.ends.length N.ends.length) (.slice A12 N.ids.length c12) (.slice A15 N.inputs.length c15))
 clear hkb h3c h3f k4c HK3 HO1 HO2 HZ
 show Code.wp _ _ _ _ (r9 x g3 (.slice (some ⟨g9, 0, none⟩) N.ends.length N.ends.length) (.slice A12 N.ids.length c12) (.slice A15 N.inputs.length c15))
 generalize r9 x g3 (.slice (some ⟨g9, 0, none⟩) N.ends.length N.ends.length) (.slice A12 N.ids.length c12) (.slice A15 N.inputs.length c15) = wb at *
 go_loopw [20] (fun x20 wr => ∃ (j : Nat), j ≤ N.ends.length ∧ x20 = .int .i64 j ∧ OwnEs wr wa.heap.size (.slice (some ⟨g9, 0, none⟩) N.ends.length N.ends.length) (pd N.ends j) ∧ OwnI wr wa.heap.size (.slice A12 N.ids.length c12) N.ids ∧ OwnI wr wa.heap.size (.slice A15 N.inputs.length c15) N.inputs ∧
  Blk wr g3 27 #[.slice (some ⟨g9, 0, none⟩) N.ends.length N.ends.length, .slice A12 N.ids.length c12, .slice A15 N.inputs.length c15] ∧ Below wa.heap.size wa wr) (fun x20 _ => N.ends.length - (intOf x20).toNat)
 case atStart => exact ⟨0, Nat.zero_le _, rfl, by rw [Jp]; exact FZ.out, FO1.out, FO2.out, FK3.out, FB.out⟩
 case round =>
  obtain ⟨j, hj, rfl, hz, ho1, ho2, hk3, hbel⟩ := hrel
  obtain ⟨wr2, rfl⟩ : ∃ wr2, wr2 = wr := ⟨_, rfl⟩
  have GZ := Lib.hid hz
  have GO1 := Lib.hid ho1
  have GO2 := Lib.hid ho2
  have GK3 := Lib.hid hk3
  have GB := Lib.hid hbel
  have GBw := Lib.hid (HB0.out.trans (hbel.mono HB0.out.size))
  have k3c := hk3.cell
  clear hz ho1 ho2 hk3 hbel FZ FO1 FO2 FK3 FB
  by_cases hlt : j < N.ends.length
  ·obtain ⟨A', c', hve, -, -, hx⟩ := HE.out
   simp only [Value.slice.injEq, true_and] at hve
   obtain ⟨rfl, rfl⟩ := hve
   obtain ⟨b, off, rfl, -, hrow⟩ := hx (by omega)
   obtain ⟨u, hu, hur⟩ := hrow j hlt
   have hbl := au hu
   have hu' : wr2.cell? ⟨b, off + j, none⟩ = some u := (GBw.out.cell (p := ⟨b, off + j, none⟩) hbl).trans hu
   have HUR := Lib.hid hur
   have i0 : (0 : Int) ≤ (j : Int) := by omega
   have i1 : (j : Int) < (N.ends.length : Int) := by omega
   have hlj := HF2.out j hlt
   clear hx hrow hu hur
   go_upto_region 5 with fail
   have k3x : ∀ (x : BW wr2) i, x.wd.cell? ⟨g3, i, none⟩ = (#[.slice (some ⟨g9, 0, none⟩) N.ends.length N.ends.length, .slice A12 N.ids.length c12, .slice A15 N.inputs.length c15] : Array Value)[i]? := fun x i => (x.cell _ _ GK3.out.lt).trans (k3c i)
   refine oe (fun i => match i with | 4 => some (mkEn (gl N.ends j)) | _ => none) 6 1000 (by kernel_rfl) (by kernel_rfl) (by intro o ho; first | (cases ho; done) | (cases ho; intro _ _ _ _ h; exact h)) ?_
   simp only [List.take_succ_cons, List.take_zero, List.drop_succ_cons, List.drop_zero]
   refine iy 4 _ _ _ rfl rfl ?_
   simp only [List.take_succ_cons, List.take_zero, List.drop_succ_cons, List.drop_zero]
   repeat (go_big_quiet_step (fail))
   refine wpQuiet_nil ?_
   refine ma _ 29 rfl rfl (by simp) (fun x hneed => by { go_wp2_with (go_at_call 128; refine (K9 _ _ _ (HUR.out.below (GBw.out.trans (x.h.mono GBw.out.size))) hlj).mono ?_; rintro e x' ⟨v, rfl, ho, hb⟩); exact mkEn.gives hb ho }) rfl ?_
   rintro v29 b29 e29 ⟨A29, c29, rfl⟩
   simp only [Act.put, List.setIfInBounds_toArray, List.set_cons_zero, List.set_cons_succ]
   refine iy 1 _ _ _ rfl rfl ?_
   simp only [List.take_succ_cons, List.take_zero, List.drop_succ_cons, List.drop_zero]
   repeat (go_big_quiet_step (fail))
   refine wpQuiet_nil ?_
   rintro y hby ⟨⟨F29, l29⟩, -⟩ - hord
   have hb29 := (hord _ (List.mem_cons_self)).1
   simp only at hb29
   have hpl := Nu N.ends hj
   have FN : Hid (OwnEs (y.setCell ⟨g9, j, none⟩ (.slice A29 (gl N.ends j).length c29)) wa.heap.size (.slice (some ⟨g9, 0, none⟩) N.ends.length N.ends.length) (pd N.ends (j + 1))) := Lib.hid (by
    rw [← Nt N.ends hlt]
    exact OwnEs.fresh GZ.out hpl.symm (by omega) hby (F29.mono hb29) GB.out.size)
   have hfz : ∃ u0, y.cell? ⟨g9, j, none⟩ = some u0 ∧ y.frozen? ⟨g9, j, none⟩ = false := by
    obtain ⟨us, hrow, -, -⟩ := GZ.out.below hby
    rw [hpl] at hrow
    exact ⟨_, OwnEs.at_ hrow hlt⟩
   obtain ⟨u0, hc0, hf0⟩ := hfz
   have hg9t : ∃ cs fr, y.heap[g9]? = some (.cells cs 82 fr) := by
    obtain ⟨us, hrow, -, -⟩ := GZ.out.below hby
    exact yz hrow g9 rfl
   have hkb : KeptBut 82 y (y.setCell ⟨g9, j, none⟩ (.slice A29 (gl N.ends j).length c29)) := by
    obtain ⟨cs, fr, h1⟩ := hg9t
    exact KeptBut.of_set (p := ⟨g9, j, none⟩) h1 _
   have FO1 := Lib.hid ((GO1.out.below hby).but hkb (by decide))
   have FO2 := Lib.hid ((GO2.out.below hby).but hkb (by decide))
   have FK3 := Lib.hid ((GK3.out.below hby).far (p := ⟨g9, j, none⟩) (fun e => hg39 e.symm) (.slice A29 (gl N.ends j).length c29))
   have FB := Lib.hid ((GB.out.trans (hby.mono GB.out.size)).setCell (p := ⟨g9, j, none⟩) hbx9.1 (.slice A29 (gl N.ends j).length c29))
   clear hby F29 l29 hord hkb hg9t k3x
   go_wp2_with fail
   go_roundw
   case rel => exact ⟨j + 1, by omega, by go_num, FN.out, FO1.out, FO2.out, FK3.out, FB.out⟩
   case measure => simp [intOf]; omega
  ·obtain rfl : j = N.ends.length := by omega
   have hk2 := (HK2.out.below (GB.out))
   have k2c := hk2.cell
   have k2f := hk2.free
   have hne2 : w.heap.size + 1 ≠ g3 := by omega
   have HKR := Lib.hid (mg (x := .slice (some ⟨g9, 0, none⟩) N.ends.length N.ends.length) (y := .slice A12 N.ids.length c12) (z := .slice A15 N.inputs.length c15) hk2)
   have hkr := HKR.out.cell
   have hkb := zx (x := .slice (some ⟨g9, 0, none⟩) N.ends.length N.ends.length) (y := .slice A12 N.ids.length c12) (z := .slice A15 N.inputs.length c15) hk2
   have FZ := Lib.hid (GZ.out.but hkb (by decide) (by decide))
   rw [Nv] at FZ
   have FO1 := Lib.hid (GO1.out.but hkb (by decide))
   have FO2 := Lib.hid (GO2.out.but hkb (by decide))
   have FB := Lib.hid (ki GBw.out (by omega : w.heap.size ≤ w.heap.size + 1) (.slice (some ⟨g9, 0, none⟩) N.ends.length N.ends.length) (.slice A12 N.ids.length c12) (.slice A15 N.inputs.length c15))
   unfold r9 at hkr
   clear hk2 hkb
   go_wp2_with fail
   refine bodyPost_ret (v := .agg #[.slice (some ⟨g9, 0, none⟩) N.ends.length N.ends.length, .slice A12 N.ids.length c12, .slice A15 N.inputs.length c15]) (by simp [results, Tryz.results77, go_sem, hkr]) rfl ?_
   exact ⟨_, rfl, ⟨_, _, _, rfl, FZ.out.mono HB0.out.size, FO1.out.mono HB0.out.size, FO2.out.mono HB0.out.size, HX1.out⟩, FB.out⟩
end Go.Proofs.YtdiiggpohcjppaaGreat
