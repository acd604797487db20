/- The statement's function FnExactCutTable returns true for every table and number, and writes nothing that was there. -/
import Derived.Test.YtclkboemgneojaaCt1
import Derived.Test.YtclkboemgneojaaLr2
import Derived.Deep.RegionHeld3
namespace Go.Proofs.Ytclkboemgneojaa
open Go.RowKit

theorem Blk.gro {w w' : World} {g : Nat} {t : TypeId} {cs : Array Value} {o : Option Nat} (h : Blk w g t cs) (hg : w.grownBy w' o) (hne : some g ≠ o) : Blk w' g t cs := (hg.block g h.lt hne).trans h
theorem OwnG.gro {α : Type} {E : Enc α} {T : TypeId} {w w' : World} {B : Nat} {v : Value} {xs : List α} {o : Option Nat} (h : OwnG E T w B v xs) (hg : w.grownBy w' o) (hne : ∀ g, v.ownBlock = some g → some g ≠ o) : OwnG E T w' B v xs := h.keepB fun b hb => hg.block b (h.lt b hb).2 (hne b hb)
theorem SlR.gro {α : Type} [Inhabited α] {E : Enc α} {w w' : World} {S : Nat → Prop} {v : Value} {xs : List α} {o : Option Nat} (h : SlR E w S v xs) (hg : w.grownBy w' o) (hne : ∀ b, S b → some b ≠ o) : SlR E w' S v xs := h.keep (fun _ h => h) hg.size fun b hb hl => hg.block b hl (hne b hb)
/-- the depth, the rows and the flag of an answer -/
def cD (x : Option (List RowT)) (k : Int) : Int := match x with | none => 0 | some _ => k
def cM (x : Option (List RowT)) : List RowT := x.getD []
theorem RetCs.out {w w' : World} {k : Int} {x : Option (List RowT)} {e : Ending} (h : RetCs w k x e w') : ∃ A c, e = .returned (.tuple #[.agg #[.int .i64 (cD x k), .slice A (cM x).length c], .bool x.isSome]) ∧ Below w.heap.size w w' ∧ SlR encR w' (fun b => b < w'.heap.size) (.slice A (cM x).length c) (cM x) := by
  cases x with
  | none => exact ⟨none, 0, h.2, h.1, SlR.nil⟩
  | some m => obtain ⟨hb, A, c, he, hs⟩ := h; exact ⟨A, c, he, hb, hs.sized.weak fun b h => h.2⟩
theorem RetMt.out {w w' : World} {k : Int} {x : Option (List RowT)} {e : Ending} (h : RetMt w k x e w') : ∃ A c, e = .returned (.tuple #[.agg #[.int .i64 (cD x k), .slice A (cM x).length c], .bool x.isSome]) ∧ Below w.heap.size w w' ∧ OwnG encR 84 w' w.heap.size (.slice A (cM x).length c) (cM x) := by
  cases x with
  | none => exact ⟨none, 0, h.2, h.1, OwnG.nil⟩
  | some m => obtain ⟨hb, A, c, he, hs⟩ := h; exact ⟨A, c, he, hb, hs⟩
theorem cutT_len (D k : Int) (rows : List RowT) : (cM (cutT D rows k)).length ≤ 60 := by
  cases hT : tabB D rows with
  | false => simp [cutT, hT, cM]
  | true =>
    cases hI : inB k 0 D with
    | false => simp [cutT, hI, cM]
    | true =>
      rw [cutT_made hT hI]
      have h1 := (tabB_iff.1 hT).2.1
      have h2 := madeOf_len (rows.map (cutRow k.toNat))
      rw [List.length_map] at h2
      split
      · show (madeOf _).length ≤ 60; omega
      · simp [cM]

theorem markTable_one (B : Nat) (v : Value) (D : Int) (rows : List RowT) (w : World) (h : OwnG encR 84 w B v rows) (h1 : rows.length ≤ 2097152) :
    Calls Try.prog 12 #[.agg #[.int .i64 D, v], .int .i64 1] w (RetMkT w B v 1 rows.length) := markTable_any B v D rows 1 w h (by omega) (by omega)
theorem heldTable_one {S : Nat → Prop} (v : Value) (D : Int) (n : Nat) (w : World) (h : SlR encR w S v (mkR 1 n)) (h1 : n ≤ 2097152) :
    Calls Try.prog 13 #[.agg #[.int .i64 D, v], .int .i64 1] w (RetV w (.int .i64 ((1 + 2 * n : Nat) : Int))) := heldTable_any v D 1 n w h (by omega) (by omega)

set_option maxRecDepth 100000 in
set_option maxHeartbeats 8000000 in
theorem lawCutTable {S : Nat → Prop} (v : Value) (D k : Int) (rows : List RowT) (w : World) (h : SlR encR w S v rows) (hs : ∀ j, j < rows.length → (ga rows j).1.size ≤ 9223372036854775807) :
    Calls Try.prog 3 #[.agg #[.int .i64 D, v], .int .i64 k] w (RetV w (.bool true)) := by
  have HR := Lib.hid h
  obtain ⟨A, c, rfl, hnc, hm, hx⟩ := h
  have HS := Lib.hid hs
  clear hx hs hnc hm
  obtain ⟨x, hx⟩ : ∃ x, x = cutT D rows k := ⟨_, rfl⟩
  have hlen : (cM x).length ≤ 60 := by rw [hx]; exact cutT_len D k rows
  have CS := Lib.hid (fun (u : Value) (T : Nat → Prop) (W : World) (hu : SlR encR W T u rows) => (by have := spCutTable u D k rows W hu; rw [← hx] at this; exact this : Calls Try.prog 8 #[.agg #[.int .i64 D, u], .int .i64 k] W (RetCs W k x)))
  have CM := Lib.hid (fun (u : Value) (T : Nat → Prop) (W : World) (hu : SlR encR W T u rows) => (by have := implCutTable u D k rows W hu; rw [← hx] at this; exact this : Calls Try.prog 10 #[.agg #[.int .i64 D, u], .int .i64 k] W (RetMt W k x)))
  obtain ⟨d, hd⟩ : ∃ d, d = cD x k := ⟨_, rfl⟩
  obtain ⟨m, hm⟩ : ∃ m, m = cM x := ⟨_, rfl⟩
  obtain ⟨ok, hok⟩ : ∃ ok, ok = x.isSome := ⟨_, rfl⟩
  have CS2 : Hid (∀ (u : Value) (T : Nat → Prop) (W : World), SlR encR W T u rows → Calls Try.prog 8 #[.agg #[.int .i64 D, u], .int .i64 k] W fun e w' => ∃ A c, e = .returned (.tuple #[.agg #[.int .i64 d, .slice A m.length c], .bool ok]) ∧ Below W.heap.size W w' ∧ SlR encR w' (fun b => b < w'.heap.size) (.slice A m.length c) m) :=
    Lib.hid fun u T W hu => (CS.out u T W hu).mono fun e w' h => by rw [hd, hm, hok]; exact h.out
  have CM2 : Hid (∀ (u : Value) (T : Nat → Prop) (W : World), SlR encR W T u rows → Calls Try.prog 10 #[.agg #[.int .i64 D, u], .int .i64 k] W fun e w' => ∃ A c, e = .returned (.tuple #[.agg #[.int .i64 d, .slice A m.length c], .bool ok]) ∧ Below W.heap.size W w' ∧ OwnG encR 84 w' W.heap.size (.slice A m.length c) m) :=
    Lib.hid fun u T W hu => (CM.out u T W hu).mono fun e w' h => by rw [hd, hm, hok]; exact h.out
  rw [← hm] at hlen
  clear CS CM hx hd hm hok
  have eok : (ok != ok) = false := by simp
  have HA0 := Lib.hid ((Below.refl w.heap.size w).alloc (Nat.le_refl _) (.cells #[.int .i64 D, .slice A rows.length c] 24))
  have K0 := Lib.hid (Blk.new w 24 #[.int .i64 D, .slice A rows.length c])
  go_enter Try.func3, Try.ntmps3
  go_wp2_with fail
  refine (szTable_any _ D rows 1048576 _ (HR.out.below HA0.out) (by omega) (by omega) HS.out).mono ?_
  rintro e w1 ⟨r, rfl, hr1, hr2, hrl, hb1⟩
  have HB1 := Lib.hid (HA0.out.trans (hb1.mono (by simp)))
  have K1 := Lib.hid (K0.out.below hb1)
  have HRL := Lib.hid hrl
  clear hrl hb1 K0 HA0
  by_cases hneg : r < 0
  · go_wp2_with fail
    go_ret
    exact ⟨rfl, HB1.out⟩
  have hrn : rows.length ≤ 2097152 := by have := HRL.out (by omega); omega
  have k1 := K1.out.cell
  go_wp2_with fail
  clear k1
  refine (toTable_any _ D rows w1 (HR.out.below HB1.out) hrn).mono ?_
  rintro e w2 ⟨A2, c2, rfl, ho2, hb2⟩
  have HO2 := Lib.hid ho2
  have HB2 := Lib.hid (Below.then_ HB1.out hb2)
  have K2 := Lib.hid (K1.out.below hb2)
  clear ho2 hb2 K1 HB1
  go_wp2_with fail
  refine (CS2.out _ _ w2 HO2.out.slrB).mono ?_
  rintro e w3 ⟨A3, c3, rfl, hb3, hs3⟩
  have hb3' : Below w3.heap.size w3 (w3.alloc (.cells #[.int .i64 d, .slice A3 m.length c3] 28)) := (Below.refl _ _).alloc (Nat.le_refl _) _
  have S6 := Lib.hid (hs3.below hb3')
  have K6 := Lib.hid (Blk.new w3 28 #[.int .i64 d, .slice A3 m.length c3])
  have HB3 := Lib.hid (Below.then_ (Below.then_ HB2.out hb3) hb3')
  have K3 := Lib.hid ((K2.out.below hb3).below hb3')
  have hz3 : (w3.alloc (.cells #[.int .i64 d, .slice A3 m.length c3] 28)).heap.size = w3.heap.size + 1 := by simp
  have hzw : w.heap.size < w3.heap.size := (K2.out.below hb3).lt
  obtain ⟨z3, hz3'⟩ : ∃ z3, z3 = w3.heap.size := ⟨_, rfl⟩
  have k3 := K3.out.cell
  clear hs3 hb3 hb3' K2 HB2 HO2
  go_wp2_with fail
  rw [← hz3'] at K6 S6 hz3 hzw ⊢
  clear hz3'
  generalize w3.alloc (.cells #[.int .i64 d, .slice A3 m.length c3] 28) = w3a at *
  clear k3
  have k3 := K3.out.cell
  refine (toTable_any _ D rows w3a (HR.out.below HB3.out) hrn).mono ?_
  rintro e w4 ⟨A4, c4, rfl, ho4, hb4⟩
  have hb4' : Below w4.heap.size w4 (w4.alloc (.cells #[.int .i64 D, .slice A4 rows.length c4] 28)) := (Below.refl _ _).alloc (Nat.le_refl _) _
  have L8 := Lib.hid ho4.lt
  have O8 := Lib.hid (ho4.below hb4')
  have K8 := Lib.hid (Blk.new w4 28 #[.int .i64 D, .slice A4 rows.length c4])
  have HB4 := Lib.hid (Below.then_ (Below.then_ HB3.out hb4) hb4')
  have K4 := Lib.hid ((K3.out.below hb4).below hb4')
  have K64 := Lib.hid ((K6.out.below hb4).below hb4')
  have S64 := Lib.hid ((S6.out.below hb4).below hb4')
  have hz4 : (w4.alloc (.cells #[.int .i64 D, .slice A4 rows.length c4] 28)).heap.size = w4.heap.size + 1 := by simp
  have hz34 : z3 + 1 ≤ w4.heap.size := by have := hb4.size; omega
  clear ho4 hb4 hb4' K3 K6 S6 HB3
  go_wp2_with fail
  obtain ⟨z4, hz4'⟩ : ∃ z4, z4 = w4.heap.size := ⟨_, rfl⟩
  rw [← hz4'] at K8 L8 hz4 hz34 ⊢
  rw [hz3] at L8 O8
  clear hz4' k3
  generalize w4.alloc (.cells #[.int .i64 D, .slice A4 rows.length c4] 28) = w4a at *
  have k8 := K8.out.cell
  go_wp2_with fail
  refine (CM2.out _ _ w4a O8.out.slrB).mono ?_
  rintro e w5 ⟨A5, c5, rfl, hb5, ho5⟩
  have hb5' : Below w5.heap.size w5 (w5.alloc (.cells #[.int .i64 d, .slice A5 m.length c5] 28)) := (Below.refl _ _).alloc (Nat.le_refl _) _
  have L9 := Lib.hid ho5.lt
  have O9 := Lib.hid (ho5.below hb5')
  have K9 := Lib.hid (Blk.new w5 28 #[.int .i64 d, .slice A5 m.length c5])
  have HB5 := Lib.hid (Below.then_ (Below.then_ HB4.out hb5) hb5')
  have K5 := Lib.hid ((K4.out.below hb5).below hb5')
  have K65 := Lib.hid ((K64.out.below hb5).below hb5')
  have S65 := Lib.hid ((S64.out.below hb5).below hb5')
  have K85 := Lib.hid ((K8.out.below hb5).below hb5')
  have O85 := Lib.hid ((O8.out.below hb5).below hb5')
  have hz5 : (w5.alloc (.cells #[.int .i64 d, .slice A5 m.length c5] 28)).heap.size = w5.heap.size + 1 := by simp
  have hz45 : z4 + 1 ≤ w5.heap.size := by have := hb5.size; omega
  have k6 := (K64.out.below hb5).cell
  have hz65 : z3 < w5.heap.size := by omega
  clear ho5 hb5 hb5' K4 K64 S64 K8 O8 HB4 k8
  go_wp2_with fail
  clear k6 hz65
  obtain ⟨z5, hz5'⟩ : ∃ z5, z5 = w5.heap.size := ⟨_, rfl⟩
  rw [← hz5'] at K9 L9 hz5 hz45 ⊢
  rw [hz4] at L9 O9
  clear hz5'
  generalize w5.alloc (.cells #[.int .i64 d, .slice A5 m.length c5] 28) = w5a at *
  refine (eqTable_same _ _ d m w5a O9.out.slrB S65.out).mono ?_
  rintro e w6 ⟨rfl, hb6⟩
  have HB6 := Lib.hid (Below.then_ HB5.out hb6)
  have K26 := Lib.hid (K5.out.below hb6)
  have K66 := Lib.hid (K65.out.below hb6)
  have S66 := Lib.hid (S65.out.below hb6)
  have K86 := Lib.hid (K85.out.below hb6)
  have O86 := Lib.hid (O85.out.below hb6)
  have K96 := Lib.hid (K9.out.below hb6)
  have O96 := Lib.hid (O9.out.below hb6)
  have hz6 : z5 + 1 ≤ w6.heap.size := by have := hb6.size; omega
  clear hb6 HB5 K5 K65 S65 K85 O85 K9 O9
  go_wp2_with fail
  have HKS : Hid (∀ W, Below w6.heap.size w6 W → (W.cell? ⟨z4, 0, none⟩ = some (.int .i64 D) ∧ W.cell? ⟨z4, 1, none⟩ = some (.slice A4 rows.length c4)) ∧ (W.cell? ⟨w.heap.size, 0, none⟩ = some (.int .i64 D) ∧ W.cell? ⟨w.heap.size, 1, none⟩ = some (.slice A rows.length c))) := Lib.hid fun W hW => by
    have ha := (K86.out.below hW).cell
    have hb := (K26.out.below hW).cell
    exact ⟨⟨by rw [ha]; rfl, by rw [ha]; rfl⟩, by rw [hb]; rfl, by rw [hb]; rfl⟩
  go_region_held3 (fun W => (W.cell? ⟨z4, 0, none⟩ = some (.int .i64 D) ∧ W.cell? ⟨z4, 1, none⟩ = some (.slice A4 rows.length c4)) ∧ (W.cell? ⟨w.heap.size, 0, none⟩ = some (.int .i64 D) ∧ W.cell? ⟨w.heap.size, 1, none⟩ = some (.slice A rows.length c)))
    ((refine HKS.out _ ?_; repeat (first | with_reducible exact hbc' | with_reducible exact hbb' | with_reducible exact Below.refl _ _ | with_reducible refine Below.drew ?_ | with_reducible refine Below.alloc_ ?_ _)))
    (first
      | (go_at_call 9; refine (toTable_any _ D rows _ (HR.out.below (Below.then_ HB6.out (by repeat (first | with_reducible exact hbc' | with_reducible exact hbb' | with_reducible exact Below.refl _ _ | with_reducible refine Below.drew ?_ | with_reducible refine Below.alloc_ ?_ _)))) hrn).mono ?_; rintro e wb ⟨Ab, cb, rfl, hob, hbb⟩; have hbb' : Below w6.heap.size w6 wb := (Below.then_ (by repeat (first | with_reducible exact hbc' | with_reducible exact hbb' | with_reducible exact Below.refl _ _ | with_reducible refine Below.drew ?_ | with_reducible refine Below.alloc_ ?_ _)) hbb))
      | (go_at_call 11; refine (eqTable_same _ _ D rows _ (O86.out.below (by repeat (first | with_reducible exact hbc' | with_reducible exact hbb' | with_reducible exact Below.refl _ _ | with_reducible refine Below.drew ?_ | with_reducible refine Below.alloc_ ?_ _))).slrB hob.slrB).mono ?_; rintro e wc ⟨rfl, hbc⟩; have hbc' : Below w6.heap.size w6 wc := (Below.then_ (by repeat (first | with_reducible exact hbc' | with_reducible exact hbb' | with_reducible exact Below.refl _ _ | with_reducible refine Below.drew ?_ | with_reducible refine Below.alloc_ ?_ _)) hbc)))
  have hb7 := hbc'
  have HB7 := Lib.hid (Below.then_ HB6.out hb7)
  have K27 := Lib.hid (K26.out.below hb7)
  have K67 := Lib.hid (K66.out.below hb7)
  have S67 := Lib.hid (S66.out.below hb7)
  have K87 := Lib.hid (K86.out.below hb7)
  have O87 := Lib.hid (O86.out.below hb7)
  have K97 := Lib.hid (K96.out.below hb7)
  have O97 := Lib.hid (O96.out.below hb7)
  have hz7 : z5 + 1 ≤ wc.heap.size := by have := hb7.size; omega
  have k8 := K87.out.cell
  clear hb7 hbb hbb' hbc hbc' hob HKS HB6 K26 K66 S66 K86 O86 K96 O96
  go_wp2_with fail
  clear k8
  refine (markTable_one _ _ D rows wc O87.out hrn).mono ?_
  rintro e w8 ⟨rfl, -, hg8⟩
  have HB8 : Hid (Below w.heap.size w w8) := Lib.hid (HB7.out.grown hg8 (by omega) (fun g hg => by have := L8.out g hg; omega))
  have K28 := Lib.hid (K27.out.gro hg8 (fun e => by have := L8.out _ e.symm; omega))
  have K68 := Lib.hid (K67.out.gro hg8 (fun e => by have := L8.out _ e.symm; omega))
  have K98 := Lib.hid (K97.out.gro hg8 (fun e => by have := L8.out _ e.symm; omega))
  have S68 := Lib.hid (S67.out.gro hg8 (fun b hb e => by have := L8.out _ e.symm; omega))
  have O98 := Lib.hid (O97.out.gro hg8 (fun g hg e => by have := L8.out _ e.symm; have := L9.out g hg; omega))
  have hz8 : z5 + 1 ≤ w8.heap.size := by have := hg8.size; omega
  clear hg8 HB7 K27 K67 K97 S67 O97 K87 O87
  obtain ⟨r8, hr8⟩ : ∃ r8 : Int, r8 = ((1 + 2 * rows.length : Nat) : Int) := ⟨_, rfl⟩
  have e8 : ¬ r8 < 0 := by omega
  rw [← hr8]
  clear hr8
  have k9 := K98.out.cell
  have k6 := K68.out.cell
  go_wp2_with fail
  clear k9 k6
  refine (eqTable_same _ _ d m w8 O98.out.slrB S68.out).mono ?_
  rintro e w9 ⟨rfl, hb9⟩
  have HB9 := Lib.hid (Below.then_ HB8.out hb9)
  have K29 := Lib.hid (K28.out.below hb9)
  have K69 := Lib.hid (K68.out.below hb9)
  have S69 := Lib.hid (S68.out.below hb9)
  have K99 := Lib.hid (K98.out.below hb9)
  have O99 := Lib.hid (O98.out.below hb9)
  have hz9 : z5 + 1 ≤ w9.heap.size := by have := hb9.size; omega
  clear hb9 HB8 K28 K68 S68 K98 O98
  have k9 := K99.out.cell
  go_wp2_with fail
  clear k9
  refine (markTable_one _ _ d m w9 O99.out (by omega)).mono ?_
  rintro e wA ⟨rfl, hoA, hgA⟩
  have OA := Lib.hid hoA
  have HBA : Hid (Below w.heap.size w wA) := Lib.hid (HB9.out.grown hgA (by omega) (fun g hg => by have := L9.out g hg; omega))
  have K2A := Lib.hid (K29.out.gro hgA (fun e => by have := L9.out _ e.symm; omega))
  have K6A := Lib.hid (K69.out.gro hgA (fun e => by have := L9.out _ e.symm; omega))
  have K9A := Lib.hid (K99.out.gro hgA (fun e => by have := L9.out _ e.symm; omega))
  have S6A := Lib.hid (S69.out.gro hgA (fun b hb e => by have := L9.out _ e.symm; omega))
  have hzA : z5 + 1 ≤ wA.heap.size := by have := hgA.size; omega
  clear hoA hgA HB9 K29 K69 K99 S69 O99
  obtain ⟨rA, hrA⟩ : ∃ rA : Int, rA = ((1 + 2 * m.length : Nat) : Int) := ⟨_, rfl⟩
  have eA : ¬ rA < 0 := by omega
  have eA2 : (rA != rA) = false := by simp
  have HH : Hid (∀ W, SlR encR W (fun b => z4 + 1 ≤ b) (.slice A5 m.length c5) (mkR 1 m.length) → Calls Try.prog 13 #[.agg #[.int .i64 d, .slice A5 m.length c5], .int .i64 1] W (RetV W (.int .i64 rA))) := Lib.hid fun W hW => by rw [hrA]; exact heldTable_one _ d m.length W hW (by omega)
  rw [← hrA]
  clear hrA
  have k9 := K9A.out.cell
  go_wp2_with fail
  clear k9
  refine (HH.out wA OA.out.slrB).mono ?_
  rintro e wB ⟨rfl, hbB⟩
  have HBB := Lib.hid (Below.then_ HBA.out hbB)
  have K2B := Lib.hid (K2A.out.below hbB)
  have K6B := Lib.hid (K6A.out.below hbB)
  have K9B := Lib.hid (K9A.out.below hbB)
  have S6B := Lib.hid (S6A.out.below hbB)
  have OB := Lib.hid (OA.out.below hbB)
  clear hbB HBA K2A K6A K9A S6A OA
  have k2 := K2B.out.cell
  go_wp2_with fail
  clear k2
  refine (toTable_any _ D rows wB (HR.out.below HBB.out) hrn).mono ?_
  rintro e wC ⟨AC, cC, rfl, hoC, hbC⟩
  have OC := Lib.hid hoC
  have HBC := Lib.hid (Below.then_ HBB.out hbC)
  have K6C := Lib.hid (K6B.out.below hbC)
  have K9C := Lib.hid (K9B.out.below hbC)
  have S6C := Lib.hid (S6B.out.below hbC)
  have O9C := Lib.hid (OB.out.below hbC)
  clear hoC hbC HBB K2B K6B K9B S6B OB
  go_wp2_with fail
  refine (CM2.out _ _ wC OC.out.slrB).mono ?_
  rintro e wD ⟨AD, cD', rfl, hbD, hoD⟩
  have hbD' : Below wD.heap.size wD (wD.alloc (.cells #[.int .i64 d, .slice AD m.length cD'] 28)) := (Below.refl _ _).alloc (Nat.le_refl _) _
  have OD := Lib.hid (hoD.below hbD')
  have KD := Lib.hid (Blk.new wD 28 #[.int .i64 d, .slice AD m.length cD'])
  have HBD := Lib.hid (Below.then_ (Below.then_ HBC.out hbD) hbD')
  have K6D := Lib.hid ((K6C.out.below hbD).below hbD')
  have K9D := Lib.hid ((K9C.out.below hbD).below hbD')
  have S6D := Lib.hid ((S6C.out.below hbD).below hbD')
  have O9D := Lib.hid ((O9C.out.below hbD).below hbD')
  have k6 := (K6C.out.below hbD).cell
  have hz6D : z3 < wD.heap.size := (K6C.out.below hbD).lt
  clear hoD hbD hbD' OC HBC K6C K9C S6C O9C
  go_wp2_with fail
  clear k6 hz6D
  refine (eqTable_same _ _ d m _ OD.out.slrB S6D.out).mono ?_
  rintro e wE ⟨rfl, hbE⟩
  have HBE := Lib.hid (Below.then_ HBD.out hbE)
  have K9E := Lib.hid (K9D.out.below hbE)
  have O9E := Lib.hid (O9D.out.below hbE)
  clear hbE HBD K6D K9D S6D O9D OD KD
  have k9 := K9E.out.cell
  go_wp2_with fail
  clear k9
  refine (HH.out wE O9E.out.slrB).mono ?_
  rintro e wF ⟨rfl, hbF⟩
  have HBF := Lib.hid (Below.then_ HBE.out hbF)
  clear hbF
  go_wp2_with fail
  go_ret
  exact ⟨rfl, HBF.out⟩
end Go.Proofs.Ytclkboemgneojaa
