/- Parts of the proof, joined: Im1, Vm1. -/
import Derived.Test.YtlaahgdikiiahaaChecked
import Derived.Test.YtlaahgdikiiahaaCJn8
import Derived.Test.YtlaahgdikiiahaaShelf
import Derived.Test.YtlaahgdikiiahaaCJn10
set_option linter.unusedSimpArgs false
set_option linter.unusedVariables false
namespace Go.Proofs.Ytlaahgdikiiahaa
section
open Go.RowKit
def Enters (g : FuncId) : Prop := ∀ (args : Array Value) (w : World), (callFunc g args).run Try.prog w = .ok (.enter g args) w
theorem Enters.of {g : FuncId} {fn : Func} {c : Code} (hf : Try.prog.funcs[g]? = some fn) (hname : (fn.name == "runtime.NumGoroutine") = false) (hb : fn.body = some c) : Enters g := by
 intro args w
 have h1 : fn.name ≠ "runtime.NumGoroutine" := by simpa using hname
 simp [callFunc, hf, h1, hb]
def PredI (w : World) (g : FuncId) (caps : Array Value) (p : Int → Bool) : Prop :=
 Enters g ∧ ∀ (x : Int) (W : World), Below w.heap.size w W → Calls Try.prog g (#[.int .i64 x] ++ caps) W (RetV W (.bool (p x)))
def firstI (p : Int → Bool) (xs : List Int) : Int := if xs.any p then (xs.findIdx p : Int) else -1
theorem firstI_of {p : Int → Bool} {xs : List Int} {k : Nat} (hk : k < xs.length) (h : ∀ j, j < k → p (gi xs j) = false) (he : p (gi xs k) = true) : firstI p xs = k := by
 have h1 : xs.any p = true := by
  rw [List.any_eq_true]; exact ⟨xs[k], List.getElem_mem hk, by rwa [← gi_lt hk]⟩
 have h2 : xs.findIdx p = k := by
  rw [List.findIdx_eq hk]
  refine ⟨by rwa [← gi_lt hk], fun j hj => ?_⟩
  have := h j hj
  rwa [gi_lt (by omega)] at this
 simp [firstI, h1, h2]
theorem firstI_none {p : Int → Bool} {xs : List Int} (h : ∀ j, j < xs.length → p (gi xs j) = false) : firstI p xs = -1 ∧ xs.any p = false := by
 have h1 : xs.any p = false := by
  rw [← Bool.not_eq_true, List.any_eq_true]
  rintro ⟨x, hx, hp⟩
  obtain ⟨k, hk, rfl⟩ := List.getElem_of_mem hx
  have := h k hk
  rw [gi_lt hk, hp] at this
  cases this
 exact ⟨by simp [firstI, h1], h1⟩
theorem firstI_ge {p : Int → Bool} {xs : List Int} : decide (0 ≤ firstI p xs) = xs.any p := by
 unfold firstI; split <;> simp_all
set_option maxRecDepth 100000 in
set_option maxHeartbeats 800000 in
theorem IndexFunc_int {S : Nat → Prop} (v : Value) (xs : List Int) (g : FuncId) (caps : Array Value) (p : Int → Bool) (w : World) (h : IntsR w S v xs) (hp : PredI w g caps p) :
 Calls Try.prog 92 #[v, .func (.func g) #[] caps] w (RetV w (.int .i64 (firstI p xs))) := by
 have hb := h.bound
 obtain ⟨A, c, rfl, hnc, hm, hx⟩ := h
 have HX := Lib.hid hx
 have HP := Lib.hid hp
 clear hx hp
 go_enter Try.func92, Try.ntmps92
 go_wp2
 go_loopw [8] (fun i wr => ∃ k : Nat, k ≤ xs.length ∧ i = .int .i64 k ∧ (∀ j, j < k → p (gi xs j) = false) ∧ Below w.heap.size w wr) (fun i _ => xs.length - (intOf i).toNat)
 case atStart => exact ⟨0, Nat.zero_le _, rfl, fun j hj => absurd hj (Nat.not_lt_zero _), Below.refl _ _⟩
 case round =>
  obtain ⟨k, hk, rfl, hs, hbel⟩ := hrel
  have HS := Lib.hid hs
  clear hs
  by_cases hlt : k < xs.length
  ·obtain ⟨b, off, rfl, -, hc⟩ := HX.out (by omega)
   have h1 : wr.cell? ⟨b, off + k, none⟩ = some (.int .i64 (gi xs k)) := by rw [hbel.cell (by exact lt_of_cell (hc k hlt))]; exact hc k hlt
   clear hc
   have HB := Lib.hid hbel
   clear hbel
   have hen : ∀ (args : Array Value) (w : World), (callFunc g args).run Try.prog w = .ok (.enter g args) w := HP.out.1
   cases he : p (gi xs k)
   ·have HE := Lib.hid he
    clear he
    go_wp2_with fail
    refine (HP.out.2 _ _ HB.out).mono ?_
    rintro e w1 ⟨rfl, hb1⟩
    rw [HE.out]
    have HB1 := Lib.hid (Below.thenB HB.out hb1 HB.out.size)
    clear hb1
    go_wp2_with fail
    go_roundw
    case rel =>
     refine ⟨k + 1, by omega, by go_num, fun j hj => ?_, HB1.out⟩
     by_cases h1 : j = k
     ·subst h1; exact HE.out
     ·exact HS.out j (by omega)
    case measure => simp [intOf]; omega
   ·have HE := Lib.hid he
    have HF := Lib.hid (firstI_of hlt HS.out he)
    clear he
    go_wp2_with fail
    refine (HP.out.2 _ _ HB.out).mono ?_
    rintro e w1 ⟨rfl, hb1⟩
    rw [HE.out]
    have HB1 := Lib.hid (Below.thenB HB.out hb1 HB.out.size)
    clear hb1
    go_wp2_with fail
    go_ret
    exact ⟨by rw [HF.out]; rfl, HB1.out⟩
  ·have HF := Lib.hid (firstI_none (p := p) (xs := xs) fun j hj => HS.out j (by omega))
   go_wp2
   go_ret
   exact ⟨by rw [HF.out.1]; rfl, hbel⟩
set_option maxHeartbeats 800000 in
theorem ContainsFunc_int {S : Nat → Prop} (v : Value) (xs : List Int) (g : FuncId) (caps : Array Value) (p : Int → Bool) (w : World) (h : IntsR w S v xs) (hp : PredI w g caps p) :
 Calls Try.prog 79 #[v, .func (.func g) #[] caps] w (RetV w (.bool (xs.any p))) := by
 have C := Lib.hid (IndexFunc_int v xs g caps p w h hp)
 have HG := Lib.hid (firstI_ge (p := p) (xs := xs))
 clear h hp
 go_enter Try.func79, Try.ntmps79
 go_wp2_with fail
 refine C.out.mono ?_
 rintro e w1 ⟨rfl, hb1⟩
 have HB1 := Lib.hid hb1
 clear hb1
 generalize firstI p xs = r at HG ⊢
 by_cases hr : 0 ≤ r
 ·have e1 : decide (0 ≤ r) = true := by simp [hr]
  rw [e1] at HG
  go_wp2_with fail
  go_ret
  exact ⟨by rw [← HG.out]; rfl, HB1.out⟩
 ·have e1 : decide (0 ≤ r) = false := by simp [hr]
  rw [e1] at HG
  go_wp2_with fail
  go_ret
  exact ⟨by rw [← HG.out]; rfl, HB1.out⟩
set_option maxHeartbeats 800000 in
theorem allWithin_clo (x lo hi : Int) (a b : Nat) (w : World) (ha : w.cell? ⟨a, 0, none⟩ = some (.int .i64 lo)) (hb : w.cell? ⟨b, 0, none⟩ = some (.int .i64 hi)) :
 Calls Try.prog 80 #[.int .i64 x, .pointer (some ⟨a, 0, none⟩), .pointer (some ⟨b, 0, none⟩)] w (RetD w (.bool (!inB x lo hi))) := by
 go_enter Try.func80, Try.ntmps80
 go_wp2_with (go_at_call 40; refine (within_any _ _ _ _).mono ?_; rintro e w1 ⟨rfl, rfl⟩)
 go_ret
 exact ⟨rfl, 0, rfl⟩
theorem any_not_all (xs : List Int) (lo hi : Int) : (!xs.any fun x => !inB x lo hi) = allB xs lo hi := by
 simp only [allB]
 induction xs with
 | nil => rfl
 | cons x xs ih => simp only [List.any_cons, List.all_cons, Bool.not_or, Bool.not_not, ih]
set_option maxHeartbeats 800000 in
theorem allWithin_any {S : Nat → Prop} (v : Value) (xs : List Int) (lo hi : Int) (w : World) (h : IntsR w S v xs) :
 Calls Try.prog 70 #[v, .int .i64 lo, .int .i64 hi] w (RetV w (.bool (allB xs lo hi))) := by
 have hb0 : ∀ o1 o2, Below w.heap.size w ((w.alloc o1).alloc o2) := fun o1 o2 => ((Below.refl _ _).alloc (Nat.le_refl _) _).alloc (by simp) _
 have HB0 := Lib.hid hb0
 have HR := Lib.hid h
 clear h hb0
 go_enter Try.func70, Try.ntmps70
 go_wp2_with fail
 refine (ContainsFunc_int _ _ _ _ (fun x => !inB x lo hi) _ (HR.out.below (HB0.out _ _)) ⟨Enters.of Try.func80 (by kernel_rfl) rfl, fun x W hW => ?_⟩).mono ?_
 ·obtain ⟨k1, k2⟩ := box2 hW
  exact (allWithin_clo x lo hi _ _ W (by rw [k1]; rfl) (by rw [k2]; rfl)).mono fun _ _ h => h.v
 rintro e w1 ⟨rfl, hb1⟩
 have HB1 := Lib.hid (Below.then_ (HB0.out _ _) hb1)
 clear hb1
 go_wp2_with fail
 go_ret
 exact ⟨by rw [← any_not_all]; rfl, HB1.out⟩
end
section
open Go.RowKit
def amt (N : Net) (most lf : Nat) (wh : Nat → Nat → Nat) : Nat → Nat → Nat
 | 0, _ => lf
 | t + 1, v => min (wh v (sumE (amt N most lf wh t) (gl N.ends v))) most
theorem amt_le {N : Net} {most lf : Nat} {wh : Nat → Nat → Nat} (hl : lf ≤ most) (t v : Nat) : amt N most lf wh t v ≤ most := by
 cases t with
 | zero => exact hl
 | succ t => exact Nat.min_le_right _ _
def LeafF (w : World) (g : FuncId) (caps : Array Value) (lf : Nat) : Prop :=
 Enters g ∧ ∀ (x : Nat) (W : World), Below w.heap.size w W → Calls Try.prog g (#[.int .i64 (x : Nat)] ++ caps) W (RetV W (.int .i64 (lf : Nat)))
def WholeF (w : World) (g : FuncId) (caps : Array Value) (n most : Nat) (wh : Nat → Nat → Nat) : Prop :=
 Enters g ∧ ∀ (v p : Nat) (W : World), Below w.heap.size w W → v < n → p ≤ 6 * most → Calls Try.prog g (#[.int .i64 (v : Nat), .int .i64 (p : Nat)] ++ caps) W (RetV W (.int .i64 (wh v p : Nat)))
theorem rowIs_belowV {w w' : World} {g n : Nat} {t : TypeId} {f : Nat → Value} (h : w.rowIs g t n f) (hb : Below w.heap.size w w') : w'.rowIs g t n f := by
 obtain ⟨c, h1, h2, h3⟩ := h
 exact ⟨c, (hb.block g (Array.getElem?_eq_some_iff.1 h1).1).trans h1, h2, h3⟩
theorem rowIs_far {w : World} {g n : Nat} {t : TypeId} {f : Nat → Value} (h : w.rowIs g t n f) {p : Addr} (hp : g ≠ p.block) (u : Value) : (w.setCell p u).rowIs g t n f := by
 obtain ⟨c, h1, h2, h3⟩ := h
 exact ⟨c, (Below.heap_setCell w p u g hp).trans h1, h2, h3⟩
set_option maxRecDepth 100000 in
set_option maxHeartbeats 4000000 in
theorem viewAmounts_any {S : Nat → Prop} (vN : Value) (N : Net) (t most lf : Nat) (wh : Nat → Nat → Nat) (g1 g2 : FuncId) (p1 p2 : Array Value) (w : World) (h : NetR w S vN N) (hg : goodB N = true) (hne : 0 < N.ends.length)
 (ht : t ≤ 1000) (hm : most ≤ 1048576) (hl : lf ≤ most) (h1 : LeafF w g1 p1 lf) (h2 : WholeF w g2 p2 N.ends.length most wh) (hwb : ∀ v p, p ≤ 6 * most → wh v p ≤ 1099511627776) :
 Calls Try.prog 28 #[vN, .int .i64 (t : Nat), .int .i64 (most : Nat), .func (.func g1) #[] p1, .func (.func g2) #[] p2] w (RetI w ((List.range N.ends.length).map fun v => (amt N most lf wh t v : Int))) := by
 have HNR := Lib.hid h
 have HG := Lib.hid hg
 have HL := Lib.hid h1
 have HW := Lib.hid h2
 have HWB := Lib.hid hwb
 have hn40 : N.ends.length ≤ 40 := (good_row hg hne).2.2.1
 obtain ⟨ve, vi, vn, rfl, he, hi, hn⟩ := h
 obtain ⟨A1, c1, rfl, -, -, -⟩ := hi
 obtain ⟨A, c, rfl, hnc, hmx, hx⟩ := he
 obtain ⟨A2, c2, rfl, hnc2, hmx2, -⟩ := hn
 unfold maxLen at hmx hmx2
 have HX := Lib.hid hx
 have hmk := fun W => Go.run_make_row' (P := Try.prog) 25 3 (.int .i64 0) 8 Try.underlying25 int_info rfl .i64 .i64 N.ends.length (by omega) (by omega) W
 have HMK := Lib.hid hmk
 have HA0 := Lib.hid ((Below.refl w.heap.size w).alloc (Nat.le_refl _) (.cells #[.slice A N.ends.length c, .slice A1 N.ids.length c1, .slice A2 N.inputs.length c2] 27))
 have HK0 := Lib.hid (Blk.new w 27 #[.slice A N.ends.length c, .slice A1 N.ids.length c1, .slice A2 N.inputs.length c2])
 have kc0 := HK0.out.cell
 have hz0 : (w.alloc (.cells #[.slice A N.ends.length c, .slice A1 N.ids.length c1, .slice A2 N.inputs.length c2] 27)).heap.size = w.heap.size + 1 := by simp
 clear hx hg h1 h2 hwb
 go_enter Try.func28, Try.ntmps28
 go_wp2_with fail
 generalize w.alloc (.cells #[.slice A N.ends.length c, .slice A1 N.ids.length c1, .slice A2 N.inputs.length c2] 27) = w0 at *
 clear hmk kc0
 go_loopw [25] (fun x25 wr => ∃ k : Nat, k ≤ N.ends.length ∧ x25 = .int .i64 k ∧ wr.rowIs (w.heap.size + 1) 3 N.ends.length (fun i => if i < k then .int .i64 (lf : Nat) else .int .i64 0) ∧
  Blk wr w.heap.size 27 #[.slice A N.ends.length c, .slice A1 N.ids.length c1, .slice A2 N.inputs.length c2] ∧ Below w.heap.size w wr) (fun x25 _ => N.ends.length - (intOf x25).toNat)
 case atStart =>
  refine ⟨0, Nat.zero_le _, rfl, ?_, HK0.out.alloc _, HA0.out.alloc HA0.out.size _⟩
  have := World.rowIs_made w0 (.int .i64 0) N.ends.length 3
  rw [hz0] at this
  simpa using this
 case round =>
  obtain ⟨k, hk, rfl, hrow, hkb, hbel⟩ := hrel
  by_cases hlt : k < N.ends.length
  ·have HR := Lib.hid hrow
   have HKB := Lib.hid hkb
   have HB := Lib.hid hbel
   clear hrow hkb hbel
   have hen : ∀ (args : Array Value) (w : World), (callFunc g1 args).run Try.prog w = .ok (.enter g1 args) w := HL.out.1
   go_wp2_with fail
   refine (HL.out.2 k _ HB.out).mono ?_
   rintro e w1 ⟨rfl, hb1⟩
   have hrow := rowIs_belowV HR.out hb1
   have hc2 := hrow.cell hlt
   have hf2 := hrow.frozen k
   have HR1 := Lib.hid hrow
   have HK1 := Lib.hid (HKB.out.below hb1)
   have HB1 := Lib.hid (Below.thenB HB.out hb1 HB.out.size)
   clear hrow hb1 hen
   go_wp2_with fail
   go_roundw
   case rel =>
    refine ⟨k + 1, by omega, by go_num, (HR1.out.set k (.int .i64 (lf : Nat))).congr fun i hi => ?_, ?_, HB1.out.setCell (p := ⟨w.heap.size + 1, k, none⟩) (by simp) _⟩
    ·by_cases h1 : i = k
     ·subst h1; simp
     ·by_cases h2 : i < k
      ·simp [h1, h2, show i < k + 1 by omega]
      ·simp [h1, h2, show ¬ i < k + 1 by omega]
    ·exact HK1.out.far (by simp) _
   case measure => simp [intOf]; omega
  ·obtain rfl : k = N.ends.length := by omega
   have HR0 : Hid (wr.rowIs (w.heap.size + 1) 3 N.ends.length (fun i => .int .i64 (amt N most lf wh 0 i : Nat))) := Lib.hid (hrow.congr fun i hi => by rw [if_pos hi]; rfl)
   have HKB := Lib.hid hkb
   have HB := Lib.hid hbel
   clear hrow hkb hbel hlt hk HA0 HK0
   go_wp2_with fail
   go_loopw [36, 11] (fun x36 x11 wr => ∃ (k Am : Nat), k ≤ t ∧ x36 = .int .i64 k ∧ x11 = .slice (some ⟨Am, 0, none⟩) N.ends.length N.ends.length ∧ w.heap.size + 1 ≤ Am ∧ wr.rowIs Am 3 N.ends.length (fun i => .int .i64 (amt N most lf wh k i : Nat)) ∧
    Blk wr w.heap.size 27 #[.slice A N.ends.length c, .slice A1 N.ids.length c1, .slice A2 N.inputs.length c2] ∧ Below w.heap.size w wr) (fun x36 _ _ => t - (intOf x36).toNat)
   case atStart => exact ⟨0, w.heap.size + 1, Nat.zero_le _, rfl, rfl, Nat.le_refl _, HR0.out, HKB.out, HB.out⟩
   case round =>
    obtain ⟨k, Am, hk, rfl, rfl, hAm, hrow, hkb, hbel⟩ := hrel
    obtain ⟨wr2, rfl⟩ : ∃ wr2, wr2 = wr := ⟨_, rfl⟩
    clear HR0 HKB HB
    have HRT := Lib.hid hrow
    have HKT := Lib.hid hkb
    have HBT := Lib.hid hbel
    have kc2 := hkb.cell
    have HB2s := Lib.hid (show w.heap.size + 1 ≤ wr2.heap.size by have := hkb.lt; omega)
    have hal : Am < wr2.heap.size := by obtain ⟨cs, q, -, -⟩ := hrow; exact (Array.getElem?_eq_some_iff.1 q).1
    clear hrow hkb hbel
    by_cases hlk : k < t
    ·have hmk := HMK.out
     have kc3 := (HKT.out.alloc (.cells (madeCells #[.int .i64 0] N.ends.length) 3)).cell
     go_upto_region 11 with fail
     have hmd := World.rowIs_made wr2 (.int .i64 0) N.ends.length 3
     have hb2 := (Below.refl wr2.heap.size wr2).alloc (Nat.le_refl _) (.cells (madeCells #[.int .i64 0] N.ends.length) 3)
     have hzn : (wr2.alloc (.cells (madeCells #[.int .i64 0] N.ends.length) 3)).heap.size = wr2.heap.size + 1 := by simp
     generalize wr2.alloc (.cells (madeCells #[.int .i64 0] N.ends.length) 3) = w2 at *
     have HMD := Lib.hid hmd
     have HK2 := Lib.hid (HKT.out.below hb2)
     have HRA := Lib.hid (rowIs_belowV HRT.out hb2)
     have HB2 := Lib.hid (HBT.out.trans (hb2.mono HBT.out.size))
     clear hmk kc2 kc3 hmd hb2
     go_loopw [45] (fun x45 wr => ∃ j : Nat, j ≤ N.ends.length ∧ x45 = .int .i64 j ∧ wr.rowIs Am 3 N.ends.length (fun i => .int .i64 (amt N most lf wh k i : Nat)) ∧
      wr.rowIs wr2.heap.size 3 N.ends.length (fun i => if i < j then .int .i64 (amt N most lf wh (k + 1) i : Nat) else .int .i64 0) ∧
      Blk wr w.heap.size 27 #[.slice A N.ends.length c, .slice A1 N.ids.length c1, .slice A2 N.inputs.length c2] ∧ Below w.heap.size w wr ∧ wr2.heap.size < wr.heap.size) (fun x45 _ => N.ends.length - (intOf x45).toNat)
     case atStart => exact ⟨0, Nat.zero_le _, rfl, HRA.out, HMD.out.congr fun i hi => by simp, HK2.out, HB2.out, by omega⟩
     case round =>
      obtain ⟨j, hj, rfl, hra, hrn, hkb, hbel, hz3⟩ := hrel
      obtain ⟨wr3, rfl⟩ : ∃ wr3, wr3 = wr := ⟨_, rfl⟩
      clear HMD HK2 HRA HB2 HRT HKT HBT
      have HRA := Lib.hid hra
      have HRN := Lib.hid hrn
      have HKB := Lib.hid hkb
      have HB3 := Lib.hid hbel
      clear hra hrn hkb hbel
      by_cases hlt : j < N.ends.length
      ·obtain ⟨b, off, rfl, -, hc⟩ := HX.out hne
       obtain ⟨u, hu, hur⟩ := hc j hlt
       have HUR := Lib.hid hur
       obtain ⟨Ae, ce, rfl, -, -, -⟩ := hur
       have hbl := lt_of_cell hu
       have cu : wr3.cell? ⟨b, off + j, none⟩ = some (.slice Ae (gl N.ends j).length ce) := (HB3.out.cell (p := ⟨b, off + j, none⟩) hbl).trans hu
       have i0 : (0 : Int) ≤ (j : Int) := by omega
       have i1 : (j : Int) < (N.ends.length : Int) := by omega
       obtain ⟨hd6, -, -, -, hends⟩ := good_row HG.out hlt
       have HEN := Lib.hid hends
       obtain ⟨dg, hdg⟩ : ∃ dg, dg = (gl N.ends j).length := ⟨_, rfl⟩
       have HDG := Lib.hid hdg
       rw [← hdg] at cu hd6
       clear hc hu hends hdg
       go_wp2_with fail
       clear cu
       go_loopw [52, 16] (fun x52 x16 wr => ∃ i : Nat, i ≤ dg ∧ x52 = .int .i64 i ∧ x16 = .int .i64 (sumE (amt N most lf wh k) ((gl N.ends j).take i) : Nat) ∧ sumE (amt N most lf wh k) ((gl N.ends j).take i) ≤ i * most ∧ Below wr3.heap.size wr3 wr) (fun x52 _ _ => dg - (intOf x52).toNat)
       case atStart => exact ⟨0, Nat.zero_le _, rfl, rfl, by simp [sumE], Below.refl _ _⟩
       case round =>
        obtain ⟨i, hi, rfl, rfl, hsum, hb4⟩ := hrel
        obtain ⟨wr4, rfl⟩ : ∃ wr4, wr4 = wr := ⟨_, rfl⟩
        have HB4 := Lib.hid hb4
        have HSS := Lib.hid hsum
        have hs7 : i * most ≤ 6 * 1048576 := Nat.mul_le_mul (by omega) hm
        clear hb4
        by_cases hli : i < dg
        ·obtain ⟨un, pn, hup, hun, hpn⟩ := HEN.out i (by have := HDG.out; omega)
         obtain ⟨Ax, cx, hv, -, -, hex⟩ := HUR.out
         cases hv
         obtain ⟨be, offe, rfl, -, hce⟩ := hex (by have := HDG.out; omega)
         obtain ⟨d1, d2⟩ := hce i (by have := HDG.out; omega)
         rw [hup] at d1 d2
         have hbe := lt_of_cell d1
         have hw4 : Below w.heap.size w wr4 := HB3.out.trans (HB4.out.mono (by have := HB3.out.size; omega))
         have q1 : wr4.cell? ⟨be, offe + i * 2, none⟩ = some (.int .i64 (un : Nat)) := (hw4.cell (p := ⟨be, offe + i * 2, none⟩) hbe).trans d1
         have q2 : wr4.cell? ⟨be, offe + i * 2 + 1, none⟩ = some (.int .i64 (pn : Nat)) := (hw4.cell (p := ⟨be, offe + i * 2 + 1, none⟩) hbe).trans d2
         have HSN := Lib.hid (sumE_snoc (amt N most lf wh k) (es := gl N.ends j) (j := i) (by have := HDG.out; omega))
         rw [hup] at HSN
         simp only [Int.toNat_natCast] at HSN
         have hra4 := rowIs_belowV HRA.out (HB4.out)
         have q3 : wr4.cell? ⟨Am, un, none⟩ = some (.int .i64 (amt N most lf wh k un : Nat)) := hra4.cell hun
         have hav := amt_le (N := N) (wh := wh) hl k un
         have HBE := Lib.hid ((Below.refl wr4.heap.size wr4).alloc (Nat.le_refl _) (.cells #[.int .i64 (un : Nat), .int .i64 (pn : Nat)] 40))
         have kE := (Blk.new wr4 40 #[.int .i64 (un : Nat), .int .i64 (pn : Nat)]).cell
         have hal4 : Am < wr4.heap.size := by have := HB4.out.size; omega
         have q4 := (HBE.out.cell (p := ⟨Am, un, none⟩) hal4).trans q3
         have zE : wr4.heap.size < (wr4.alloc (.cells #[.int .i64 (un : Nat), .int .i64 (pn : Nat)] 40)).heap.size := by simp
         have j0 : (0 : Int) ≤ (i : Int) := by omega
         have j1 : (i : Int) < (dg : Int) := by omega
         have u0 : (0 : Int) ≤ (un : Int) := by omega
         have u1 : (un : Int) < (N.ends.length : Int) := by omega
         generalize sumE (amt N most lf wh k) ((gl N.ends j).take i) = sm at *
         have hs8 : sm ≤ 6 * 1048576 := by omega
         obtain ⟨au, hau⟩ : ∃ au, au = amt N most lf wh k un := ⟨_, rfl⟩
         have HAU := Lib.hid hau
         rw [← hau] at q4 hav
         clear hup hce hex d1 d2 q3 hw4 hra4 hau
         go_wp2_with fail
         go_roundw
         case rel => exact ⟨i + 1, by omega, by go_num, by rw [HSN.out, ← HAU.out]; simp, by rw [HSN.out, ← HAU.out, Nat.add_mul, Nat.one_mul]; have := HSS.out; omega, HB4.out.alloc HB4.out.size _⟩
         case measure => simp [intOf]; omega
        ·obtain rfl : i = dg := by omega
         have htk0 : (gl N.ends j).take i = gl N.ends j := by rw [HDG.out]; exact List.take_length
         have HAM : Hid (amt N most lf wh (k + 1) j = min (wh j (sumE (amt N most lf wh k) (gl N.ends j))) most) := Lib.hid rfl
         rw [htk0] at hsum HSS ⊢
         generalize sumE (amt N most lf wh k) (gl N.ends j) = sm at *
         have hs6 : sm ≤ 6 * most := Nat.le_trans hsum (Nat.mul_le_mul (by omega) (Nat.le_refl _))
         have hwq := HWB.out j sm hs6
         obtain ⟨q, hq⟩ : ∃ q, q = wh j sm := ⟨_, rfl⟩
         have HQ := Lib.hid hq
         have HB5 := Lib.hid (HB3.out.trans (HB4.out.mono (by have := HB3.out.size; omega)))
         have hen : ∀ (args : Array Value) (w : World), (callFunc g2 args).run Try.prog w = .ok (.enter g2 args) w := HW.out.1
         rw [← hq] at hwq
         clear htk0 hq hsum
         go_wp2_with fail
         refine (HW.out.2 j sm _ HB5.out hlt hs6).mono ?_
         rintro e w5 ⟨rfl, hb5⟩
         rw [← HQ.out]
         have hra5 := rowIs_belowV (rowIs_belowV HRA.out HB4.out) hb5
         have hrn5 := rowIs_belowV (rowIs_belowV HRN.out HB4.out) hb5
         have hc2 := hrn5.cell hlt
         have hf2 := hrn5.frozen j
         have HRA5 := Lib.hid hra5
         have HRN5 := Lib.hid hrn5
         have HK5 := Lib.hid ((HKB.out.below HB4.out).below hb5)
         have hz5 : wr2.heap.size < w5.heap.size := by have := HB4.out.size; have := hb5.size; omega
         have HB6 := Lib.hid (Below.thenB HB5.out hb5 HB5.out.size)
         clear hra5 hrn5 hb5 hen
         go_wp2_with fail
         have hmin : (min (q : Int) (most : Int)) = ((amt N most lf wh (k + 1) j : Nat) : Int) := by rw [HAM.out, ← HQ.out]; omega
         rw [hmin]
         go_roundw
         case rel =>
          refine ⟨j + 1, by omega, by go_num, rowIs_far HRA5.out (by show Am ≠ wr2.heap.size; omega) _, (HRN5.out.set j (.int .i64 (amt N most lf wh (k + 1) j : Nat))).congr fun i hi => ?_, HK5.out.far (by show w.heap.size ≠ wr2.heap.size; have := HB2s.out; omega) _, HB6.out.setCell (by show w.heap.size ≤ wr2.heap.size; have := HB2s.out; omega) _, by simp [World.setCell]; omega⟩
          by_cases h1 : i = j
          ·subst h1; simp
          ·by_cases h2 : i < j
           ·simp [h1, h2, show i < j + 1 by omega]
           ·simp [h1, h2, show ¬ i < j + 1 by omega]
         case measure => simp [intOf]; omega
      ·obtain rfl : j = N.ends.length := by omega
       go_wp2_with fail
       go_roundw
       case rel => exact ⟨k + 1, wr2.heap.size, by omega, by go_num, rfl, HB2s.out, HRN.out.congr fun i hi => by rw [if_pos hi], HKB.out, HB3.out⟩
       case measure => simp [intOf]; omega
    ·obtain rfl : k = t := by omega
     go_wp2_with fail
     go_ret
     refine ⟨_, rfl, OwnI.of_rowIs (HRT.out.congr fun i hi => ?_) (by simp) (by omega) (by unfold maxLen; omega), HBT.out⟩
     simp [gi, hi]
end
end Go.Proofs.Ytlaahgdikiiahaa
