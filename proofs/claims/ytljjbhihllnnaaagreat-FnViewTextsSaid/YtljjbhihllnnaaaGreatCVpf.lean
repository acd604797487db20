/- The program's functions on view texts; the reference's IsView, DepthOfView. Printed by gen_vpf.py. -/
import Derived.Test.YtljjbhihllnnaaaGreatCJn21
import Derived.Test.YtljjbhihllnnaaaGreatCWr2
import Derived.Test.YtljjbhihllnnaaaGreatCVs4
import Derived.Test.YtljjbhihllnnaaaGreatCIm1
import Derived.Test.YtljjbhihllnnaaaGreatCJn40
import Derived.Deep.DeepCutAuto
namespace Go.Proofs.YtljjbhihllnnaaaGreat
open Go.RowKit
attribute [local go_sem] BW.cell BW.frozen

/-- the depth that a text tells -/
def vdepT (s : ByteArray) : Nat := match viewOf s with | none => 0 | some t => t.dep
theorem readNo {s : ByteArray} (h : viewOf s = none) (w : World) : Calls Tryz.prog 59 #[.string s] w (fun e w' => Below w.heap.size w w' ∧ e = .returned (.pointer none)) :=
  (readView_any s w).mono fun e w' hr => by rw [h] at hr; exact hr
theorem readYes {s : ByteArray} {t : VT} (h : viewOf s = some t) (w : World) : Calls Tryz.prog 59 #[.string s] w (fun e w' => Below w.heap.size w w' ∧ ∃ p, e = .returned (.pointer (some ⟨p, 0, none⟩)) ∧ TreeR w' (fun b => w.heap.size ≤ b) t p) :=
  (readView_any s w).mono fun e w' hr => by rw [h] at hr; exact hr
theorem parseNo {s : ByteArray} (h : viewOf s = none) (w : World) : Calls Tryz.prog 67 #[.string s] w (fun e w' => Below w.heap.size w w' ∧ ∃ v, e = .returned (.tuple #[v, .bool false])) :=
  (spParse_any s w).mono fun e w' hr => by
    obtain ⟨v, ok, rfl, hb, hp⟩ := hr
    rw [h] at hp
    exact ⟨hb, v, by rw [show ok = false from hp]⟩
theorem parseYes {s : ByteArray} {t : VT} (h : viewOf s = some t) (w : World) : Calls Tryz.prog 67 #[.string s] w (fun e w' => Below w.heap.size w w' ∧ ∃ p, e = .returned (.tuple #[.pointer (some ⟨p, 0, none⟩), .bool true]) ∧ TreeR w' (fun b => w.heap.size ≤ b) t p) :=
  (spParse_any s w).mono fun e w' hr => by
    obtain ⟨v, ok, rfl, hb, hp⟩ := hr
    rw [h] at hp
    obtain ⟨rfl, p, rfl, hp⟩ := hp
    exact ⟨hb, p, rfl, hp⟩

set_option maxRecDepth 100000 in
set_option maxHeartbeats 1000000 in
theorem IsView_any (s : ByteArray) (w : World) : Calls Tryz.prog 15 #[.string s] w (RetV w (.bool (viewOf s).isSome)) := by
  cases hv : viewOf s with
  | none =>
    have HP : Hid (vdepT s = 0) := Lib.hid (by simp [vdepT, hv])
    have CR := Lib.hid (readNo hv w)
    clear hv
    go_enter Tryz.func15, Tryz.ntmps15
    go_wp2_with (go_at_call 59; refine CR.out.mono ?_; rintro e w1 ⟨hb1, rfl⟩; have HB1 := Lib.hid hb1; clear hb1)
    exact bodyPost_ret (v := (.bool false)) (by simp [results, Tryz.results15, go_sem]) rfl ⟨by first | (rw [HP.out]; rfl) | rfl, HB1.out⟩
  | some t =>
    have HP : Hid (vdepT s = t.dep) := Lib.hid (by simp [vdepT, hv])
    have CR := Lib.hid (readYes hv w)
    clear hv
    go_enter Tryz.func15, Tryz.ntmps15
    go_wp2_with (go_at_call 59; refine CR.out.mono ?_; rintro e w1 ⟨hb1, p, rfl, ht⟩; have HB1 := Lib.hid hb1; have HT := Lib.hid ht; obtain ⟨-, kd, -, kp⟩ := ht.deg; clear hb1 ht)
    exact bodyPost_ret (v := (.bool true)) (by simp [results, Tryz.results15, go_sem]) rfl ⟨by first | (rw [HP.out]; rfl) | rfl, HB1.out⟩

set_option maxRecDepth 100000 in
set_option maxHeartbeats 1000000 in
theorem DepthOfView_any (s : ByteArray) (w : World) : Calls Tryz.prog 14 #[.string s] w (RetV w (.tuple #[.int .i64 (vdepT s : Nat), .bool (viewOf s).isSome])) := by
  cases hv : viewOf s with
  | none =>
    have HP : Hid (vdepT s = 0) := Lib.hid (by simp [vdepT, hv])
    have CR := Lib.hid (readNo hv w)
    clear hv
    go_enter Tryz.func14, Tryz.ntmps14
    go_wp2_with (go_at_call 59; refine CR.out.mono ?_; rintro e w1 ⟨hb1, rfl⟩; have HB1 := Lib.hid hb1; clear hb1)
    exact bodyPost_ret (v := (.tuple #[.int .i64 0, .bool false])) (by simp [results, Tryz.results14, go_sem]) rfl ⟨by first | (rw [HP.out]; rfl) | rfl, HB1.out⟩
  | some t =>
    have HP : Hid (vdepT s = t.dep) := Lib.hid (by simp [vdepT, hv])
    have CR := Lib.hid (readYes hv w)
    clear hv
    go_enter Tryz.func14, Tryz.ntmps14
    go_wp2_with (go_at_call 59; refine CR.out.mono ?_; rintro e w1 ⟨hb1, p, rfl, ht⟩; have HB1 := Lib.hid hb1; have HT := Lib.hid ht; obtain ⟨-, kd, -, kp⟩ := ht.deg; clear hb1 ht)
    exact bodyPost_ret (v := (.tuple #[.int .i64 (t.dep : Nat), .bool true])) (by simp [results, Tryz.results14, go_sem]) rfl ⟨by first | (rw [HP.out]; rfl) | rfl, HB1.out⟩

set_option maxRecDepth 100000 in
set_option maxHeartbeats 1000000 in
theorem specIsView_any (s : ByteArray) (w : World) : Calls Tryz.prog 18 #[.string s] w (RetV w (.bool (viewOf s).isSome)) := by
  cases hv : viewOf s with
  | none =>
    have HP : Hid (vdepT s = 0) := Lib.hid (by simp [vdepT, hv])
    have CR := Lib.hid (parseNo hv w)
    clear hv
    go_enter Tryz.func18, Tryz.ntmps18
    go_wp2_with (go_at_call 67; refine CR.out.mono ?_; rintro e w1 ⟨hb1, v1, rfl⟩; have HB1 := Lib.hid hb1; clear hb1)
    exact bodyPost_ret (v := (.bool false)) (by simp [results, Tryz.results18, go_sem]) rfl ⟨by first | (rw [HP.out]; rfl) | rfl, HB1.out⟩
  | some t =>
    have HP : Hid (vdepT s = t.dep) := Lib.hid (by simp [vdepT, hv])
    have CR := Lib.hid (parseYes hv w)
    clear hv
    go_enter Tryz.func18, Tryz.ntmps18
    go_wp2_with (go_at_call 67; refine CR.out.mono ?_; rintro e w1 ⟨hb1, p, rfl, ht⟩; have HB1 := Lib.hid hb1; have HT := Lib.hid ht; obtain ⟨-, kd, -, kp⟩ := ht.deg; clear hb1 ht)
    exact bodyPost_ret (v := (.bool true)) (by simp [results, Tryz.results18, go_sem]) rfl ⟨by first | (rw [HP.out]; rfl) | rfl, HB1.out⟩

set_option maxRecDepth 100000 in
set_option maxHeartbeats 1000000 in
theorem specDepthOfView_any (s : ByteArray) (w : World) : Calls Tryz.prog 17 #[.string s] w (RetV w (.tuple #[.int .i64 (vdepT s : Nat), .bool (viewOf s).isSome])) := by
  cases hv : viewOf s with
  | none =>
    have HP : Hid (vdepT s = 0) := Lib.hid (by simp [vdepT, hv])
    have CR := Lib.hid (parseNo hv w)
    clear hv
    go_enter Tryz.func17, Tryz.ntmps17
    go_wp2_with (go_at_call 67; refine CR.out.mono ?_; rintro e w1 ⟨hb1, v1, rfl⟩; have HB1 := Lib.hid hb1; clear hb1)
    exact bodyPost_ret (v := (.tuple #[.int .i64 0, .bool false])) (by simp [results, Tryz.results17, go_sem]) rfl ⟨by first | (rw [HP.out]; rfl) | rfl, HB1.out⟩
  | some t =>
    have HP : Hid (vdepT s = t.dep) := Lib.hid (by simp [vdepT, hv])
    have CR := Lib.hid (parseYes hv w)
    clear hv
    go_enter Tryz.func17, Tryz.ntmps17
    go_wp2_with (go_at_call 67; refine CR.out.mono ?_; rintro e w1 ⟨hb1, p, rfl, ht⟩; have HB1 := Lib.hid hb1; have HT := Lib.hid ht; obtain ⟨-, kd, -, kp⟩ := ht.deg; clear hb1 ht)
    exact bodyPost_ret (v := (.tuple #[.int .i64 (t.dep : Nat), .bool true])) (by simp [results, Tryz.results17, go_sem]) rfl ⟨by first | (rw [HP.out]; rfl) | rfl, HB1.out⟩

/-- the first k levels of a text that reads -/
theorem CutView_any (s : ByteArray) (t : VT) (k : Nat) (w : World) (hv : viewOf s = some t) (hk : k ≤ 80) : Calls Tryz.prog 12 #[.string s, .int .i64 (k : Nat)] w (RetV w (.tuple #[.string (strB (t.txt k)), .bool true])) := by
  have CR := Lib.hid (readYes hv w)
  have hw := (viewOf_inv hv).2.2.1
  have hl := (viewOf_txt hv k).1
  have CT := Lib.hid (fun W p (h : TreeR W (fun b => w.heap.size ≤ b) t p) => textTo_any t W p k h hw hl (by omega))
  have CD := Lib.hid (fun W => isDepth_any (k : Int) W)
  have hd : inB (k : Int) 0 80 = true := inB_iff.2 (by omega)
  rw [hd] at CD
  clear hv hw hl hd
  go_enter Tryz.func12, Tryz.ntmps12
  go_wp2_with (first
    | (go_at_call 59; refine CR.out.mono ?_; rintro e w1 ⟨hb1, p, rfl, ht⟩; have HB1 := Lib.hid hb1; have HT := Lib.hid ht; clear hb1 ht)
    | (go_at_call 47; refine (CD.out _).mono ?_; rintro e w2 ⟨rfl, rfl⟩)
    | (go_at_call 60; refine (CT.out _ _ HT.out).mono ?_; rintro e w3 ⟨rfl, hb3⟩; have HB3 := Lib.hid (Below.then_ HB1.out hb3); clear hb3))
  exact bodyPost_ret (v := .tuple #[.string (strB (t.txt k)), .bool true]) (by simp [results, Tryz.results12, go_sem]) rfl ⟨rfl, HB3.out⟩

set_option maxRecDepth 100000 in
set_option maxHeartbeats 2000000 in
theorem ChildView_any (s : ByteArray) (d i0 : Nat) (ps : List Nat) (ts : List VT) (i : Nat) (w : World) (hv : viewOf s = some (.mk d i0 ps ts)) (hi : i < ts.length) : Calls Tryz.prog 13 #[.string s, .int .i64 (i : Nat)] w (RetV w (.tuple #[.string (strB ((ga ts i).txt 80)), .int .i64 (ga ps i : Nat), .bool true])) := by
  have CR := Lib.hid (readYes hv w)
  obtain ⟨-, hpv, hw, -⟩ := viewOf_inv hv
  have hpl : ps.length = ts.length := (wf_mk.1 hw).2.2.1
  have hd6 : ts.length ≤ 6 := by
    rcases (wf_mk.1 hw).2.2.2.1 with h | h
    · rw [h]; simp
    · have := (wf_mk.1 hw).1; omega
  have hwi := (wfs_at (wf_mk.1 hw).2.2.2.2 hi).2.2
  have hl81 := (viewOf_txt hv 81).1
  have hli : ((ga ts i).txt 80).length ≤ 4000 := by
    have e := txts_part (k := 80) (s := 40) hi hpl
    rw [txts_snoc hi hpl] at e
    rw [txt_mk] at hl81
    have hne : ts.isEmpty = false := by cases ts with | nil => simp at hi | cons a b => rfl
    simp only [hne] at hl81
    simp at hl81
    simp at e
    omega
  have CT := Lib.hid (fun W p (h : TreeR W (fun b => w.heap.size ≤ b) (ga ts i) p) => textTo_any (ga ts i) W p 80 h hwi hli (by omega))
  have CW := Lib.hid (fun W => within_any (i : Int) 0 ((ts.length : Int) - 1) W)
  have hin : inB (i : Int) 0 ((ts.length : Int) - 1) = true := inB_iff.2 (by omega)
  rw [hin] at CW
  have i1 : (0 : Int) ≤ (i : Int) := by omega
  have i2 : (i : Int) < (ts.length : Int) := by omega
  have HPL := Lib.hid hpl
  have hw1 : IntKind.i64.wrap ((ts.length : Int) - 1) = (ts.length : Int) - 1 := IntWalk.i64_in _ (by omega)
  clear hv hw hwi hl81 hli hpv hpl hin
  go_enter Tryz.func13, Tryz.ntmps13
  go_upto_region 2 with (go_at_call 59; refine CR.out.mono ?_; rintro e w1 ⟨hb1, p, rfl, ht⟩)
  obtain ⟨-, hpz, vp, vt, qs, -, -, c2, c3, -, hip, hst, htr⟩ := ht
  have hql := htr.len
  obtain ⟨Ap, cp, rfl, -, -, hpx⟩ := hip
  obtain ⟨At, ct, rfl, -, -, -⟩ := id hst
  obtain ⟨-, bt, ot, rfl, -, hbt, hct⟩ := hst.atP (by omega)
  have e1 := hct i (by omega)
  rw [zs_len] at c2 hpx
  have hpi : i < ps.length := by rw [HPL.out]; exact hi
  obtain ⟨bp, op, rfl, -, hcp⟩ := hpx (by omega)
  have e2 := hcp i hpi
  rw [gi_zs hpi] at e2
  have hbp := lt_of_cell e2
  rw [HPL.out] at c2
  rw [hql] at c3
  have HT := Lib.hid (htr.at_ hi)
  have HB1 := Lib.hid hb1
  clear hb1 hpx hcp hct hst htr hql hpi
  go_upto_region 4 with (go_at_call 61; refine (CW.out _).mono ?_; rintro e w2 ⟨rfl, rfl⟩)
  refine wp_region_below (by kernel_rfl) (by kernel_rfl) ?_
  repeat (go_big_quiet_step ((go_at_call 60; exact quietB (CT.out _ _ (HT.out.below (BW.h _))))))
  refine wpQuiet_nil ?_
  rintro _ ⟨x, rfl⟩
  have HX := Lib.hid (Below.then_ HB1.out x.h)
  go_wp2_with fail
  exact bodyPost_ret (v := .tuple #[.string (strB ((ga ts i).txt 80)), .int .i64 (ga ps i : Nat), .bool true]) (by simp [results, Tryz.results13, go_sem]) rfl ⟨rfl, HX.out⟩

end Go.Proofs.YtljjbhihllnnaaaGreat
