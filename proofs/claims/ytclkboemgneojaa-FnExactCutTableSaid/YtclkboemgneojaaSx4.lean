/- The reference's CutTable. -/
import Derived.Test.YtclkboemgneojaaSx3
import Derived.Deep.RegionHeld3
namespace Go.Proofs.Ytclkboemgneojaa
open Go.RowKit

theorem putR_len {r : RowT} {l m : List RowT} (h : putR r l = some m) : m.length ≤ l.length + 1 := by
  induction l generalizing m with
  | nil => simp [putR] at h; subst h; simp
  | cons y l ih =>
    simp only [putR] at h
    split at h
    · cases hp : putR r l with
      | none => simp [hp] at h
      | some m' => simp [hp] at h; subst h; have := ih hp; simp; omega
    · split at h
      · split at h
        · simp at h; subst h; simp
        · cases h
      · simp at h; subst h; simp
theorem putAll_take {f : RowT → RowT} {rows : List RowT} {j : Nat} {acc : List RowT} (hj : j < rows.length) (h : putAll [] ((rows.take j).map f) = some acc) : putAll [] ((rows.take (j + 1)).map f) = putR (f (ga rows j)) acc := by
  rw [List.take_succ_eq_append_getElem hj, List.map_append, List.map_cons, List.map_nil, putAll_snoc, h, ga_lt hj]; rfl
theorem putAll_stop {f : RowT → RowT} {rows : List RowT} {j : Nat} (h : putAll [] ((rows.take j).map f) = none) : putAll [] (rows.map f) = none := by
  have key : ∀ (xs ys acc : List RowT), putAll acc xs = none → putAll acc (xs ++ ys) = none := by
    intro xs
    induction xs with
    | nil => intro ys acc h; simp [putAll] at h
    | cons x xs ih =>
      intro ys acc h
      simp only [putAll, List.cons_append] at h ⊢
      cases hp : putR x acc with
      | none => rfl
      | some a => rw [hp] at h; exact ih ys a h
  have := key _ ((rows.drop j).map f) [] h
  rwa [← List.map_append, List.take_append_drop] at this

/-- what the reference's CutTable gives -/
def RetCs (w : World) (k : Int) (x : Option (List RowT)) (e : Ending) (w' : World) : Prop := Below w.heap.size w w' ∧ (match x with
  | none => e = .returned (.tuple #[.agg #[.int .i64 0, .slice none 0 0], .bool false])
  | some m => ∃ A c, e = .returned (.tuple #[.agg #[.int .i64 k, .slice A m.length c], .bool true]) ∧ SlR encR w' (fun q => w.heap.size ≤ q) (.slice A m.length c) m)
theorem RetCs.no {w w' : World} {k : Int} {x : Option (List RowT)} (h : x = none) (hb : Below w.heap.size w w') : RetCs w k x (.returned (.tuple #[.agg #[.int .i64 0, .slice none 0 0], .bool false])) w' := by subst h; exact ⟨hb, rfl⟩
theorem cells2 {W : World} {g g' : Nat} {t t' : TypeId} {a b a' b' : Value} (h : Blk W g t #[a, b]) (h' : Blk W g' t' #[a', b']) :
    W.cell? ⟨g, 0, none⟩ = some a ∧ W.cell? ⟨g, 1, none⟩ = some b ∧ W.cell? ⟨g', 0, none⟩ = some a' ∧ W.cell? ⟨g', 1, none⟩ = some b' :=
  ⟨by rw [h.cell]; rfl, by rw [h.cell]; rfl, by rw [h'.cell]; rfl, by rw [h'.cell]; rfl⟩
theorem box2b {w w' : World} {cs ds : Array Value} {t t' : TypeId} (hb : Below ((w.alloc (.cells cs t)).alloc (.cells ds t')).heap.size ((w.alloc (.cells cs t)).alloc (.cells ds t')) w') : Blk w' w.heap.size t cs ∧ Blk w' (w.heap.size + 1) t' ds := by
  refine ⟨Blk.below ((Blk.new _ _ _).alloc _) hb, Blk.below ?_ hb⟩
  have := Blk.new (w.alloc (.cells cs t)) t' ds
  simpa using this
theorem Below.alloc_ {w w1 : World} (h : Below w.heap.size w w1) (o : Obj) : Below w.heap.size w (w1.alloc o) := h.alloc h.size o
theorem Below.set_ {w w1 : World} {p : Addr} (h : Below w.heap.size w w1) (hp : w.heap.size ≤ p.block) (u : Value) : Below w.heap.size w (w1.setCell p u) := h.setCell hp u
theorem drew_size (w : World) : w.drew.heap.size = w.heap.size := rfl
theorem drew_cell (w : World) (a : Addr) : w.drew.cell? a = w.cell? a := rfl
theorem drew_frozen (w : World) (a : Addr) : w.drew.frozen? a = w.frozen? a := rfl
theorem taGood_b {S : Nat → Prop} (v : Value) (D : Int) (rows : List RowT) (b : Bool) (w : World) (h : SlR encR w S v rows) (hb : tabB D rows = b) : Calls Try.prog 47 #[.agg #[.int .i64 D, v]] w (RetV w (.bool b)) := by subst hb; exact taGood_any v D rows w h

def PtV (w : World) (S : Nat → Prop) (x : Option (List RowT)) (A : Option Addr) (n c : Nat) (ok : Bool) (w' : World) : Prop := match x with
  | none => ok = false
  | some m => ok = true ∧ n = m.length ∧ SlR encR w' (fun b => S b ∨ w.heap.size ≤ b) (.slice A n c) m
theorem RetPt.out {w w' : World} {S : Nat → Prop} {D : Int} {x : Option (List RowT)} {e : Ending} (h : RetPt w S D x e w') :
    ∃ A n c ok, e = .returned (.tuple #[.agg #[.int .i64 D, .slice A n c], .bool ok]) ∧ Below w.heap.size w w' ∧ PtV w S x A n c ok w' := by
  obtain ⟨v, ok, rfl, hb, hx⟩ := h
  cases x with
  | none => obtain ⟨rfl, A, n, c, rfl⟩ := hx; exact ⟨A, n, c, false, rfl, hb, rfl⟩
  | some m =>
    obtain ⟨rfl, hs⟩ := hx
    have hs' := hs
    obtain ⟨A, c, rfl, -, -, -⟩ := hs
    exact ⟨A, m.length, c, true, rfl, hb, rfl, rfl, hs'⟩

theorem SlR.far_ {α : Type} [Inhabited α] {E : Enc α} {w : World} {S : Nat → Prop} {v : Value} {xs : List α} (h : SlR E w S v xs) {p : Addr} (hp : ∀ b, S b → b ≠ p.block) (u : Value) : SlR E (w.setCell p u) S v xs :=
  h.keep (fun _ h => h) (by simp [World.setCell]) fun b hb _ => Below.heap_setCell w p u b (hp b hb)
/-- the table behind taPut, in a block of its own -/
def PutV (S0 : Nat → Prop) (q : Nat) (wp : World) (x : Option (List RowT)) (gp ok : Value) (W : World) : Prop :=
  ∃ (g A : _) (n c : Nat) (okb : Bool), gp = .pointer (some ⟨g, 0, none⟩) ∧ ok = .bool okb ∧ Blk W g 28 #[.int .i64 (q : Nat), .slice A n c] ∧ Below wp.heap.size wp W ∧ (match x with
    | none => okb = false
    | some m => okb = true ∧ n = m.length ∧ SlR encR W S0 (.slice A n c) m)
theorem PutV.mk' {S0 : Nat → Prop} {q : Nat} {wp w0 wc W : World} {x : Option (List RowT)} {g n c : Nat} {A : Option Addr} {ok : Bool} (hx : PtV w0 (fun b => S0 b ∧ b < wp.heap.size) x A n c ok wc) (hB : ∀ b, w0.heap.size ≤ b → S0 b) (hk : Blk W g 28 #[.int .i64 (q : Nat), .slice A n c]) (hb : Below wp.heap.size wp W)
    (hW : ∀ b, (S0 b ∧ b < wp.heap.size) ∨ w0.heap.size ≤ b → b < wc.heap.size → W.heap[b]? = wc.heap[b]?) (hs : wc.heap.size ≤ W.heap.size) : PutV S0 q wp x (.pointer (some ⟨g, 0, none⟩)) (.bool ok) W := by
  refine ⟨g, A, n, c, ok, rfl, rfl, hk, hb, ?_⟩
  cases x with
  | none => exact hx
  | some m =>
    obtain ⟨h1, h2, h3⟩ := hx
    exact ⟨h1, h2, (SlR.keep h3 (fun _ h => h) hs hW).weak fun b hb => by rcases hb with hb | hb; exact hb.1; exact hB b hb⟩

set_option maxRecDepth 100000 in
set_option maxHeartbeats 4000000 in
theorem spCutTable {S : Nat → Prop} (v : Value) (D k : Int) (rows : List RowT) (w : World) (h : SlR encR w S v rows) :
    Calls Try.prog 8 #[.agg #[.int .i64 D, v], .int .i64 k] w (RetCs w k (cutT D rows k)) := by
  have HR := Lib.hid h
  obtain ⟨A, c, rfl, hnc, hm, hx⟩ := h
  unfold maxLen at hm
  have HX := Lib.hid hx
  clear hx
  have hb0 : ∀ o1 o2, Below w.heap.size w ((w.alloc o1).alloc o2) := fun o1 o2 => ((Below.refl _ _).alloc (Nat.le_refl _) _).alloc (by simp) _
  have HB0 := Lib.hid hb0
  clear hb0
  cases hT : tabB D rows with
  | false =>
    have HN : Hid (cutT D rows k = none) := Lib.hid (by simp [cutT, hT])
    have CT := Lib.hid (fun W (hW : Below w.heap.size w W) => taGood_b _ D rows false W (HR.out.below hW) hT)
    clear hT
    go_enter Try.func8, Try.ntmps8
    go_wp2_with fail
    refine (CT.out _ (HB0.out _ _)).mono ?_
    rintro e w1 ⟨rfl, hb1⟩
    obtain ⟨k0, k1⟩ := box2b hb1
    have hc := ((k1.put 0 (.int .i64 0)).put 1 (.slice none 0 0)).cell
    have kc := k1.cell
    have kf := k1.free
    have kd := k0.cell
    have HB1 := Lib.hid ((((HB0.out _ _).trans (hb1.mono (HB0.out _ _).size)).setCell (p := ⟨w.heap.size + 1, 0, none⟩) (by simp) (.int .i64 0)).setCell (p := ⟨w.heap.size + 1, 1, none⟩) (by simp) (.slice none 0 0))
    clear hb1 k0 k1
    go_wp2_with fail
    refine bodyPost_ret (v := .tuple #[.agg #[.int .i64 0, .slice none 0 0], .bool false]) (by simp [results, Try.results8, go_sem, hc]) rfl (RetCs.no HN.out HB1.out)
  | true =>
  have CT := Lib.hid (fun W (hW : Below w.heap.size w W) => taGood_b _ D rows true W (HR.out.below hW) hT)
  have HT := Lib.hid hT
  cases hI : inB k 0 D with
  | false =>
    have HN : Hid (cutT D rows k = none) := Lib.hid (by simp [cutT, hI])
    have CI := Lib.hid (fun W => l1In_b k 0 D false W hI)
    clear hT hI
    go_enter Try.func8, Try.ntmps8
    go_wp2_with fail
    refine (CT.out _ (HB0.out _ _)).mono ?_
    rintro e w1 ⟨rfl, hb1⟩
    obtain ⟨k0, k1⟩ := box2b hb1
    have hc := ((k1.put 0 (.int .i64 0)).put 1 (.slice none 0 0)).cell
    have kc := k1.cell
    have kf := k1.free
    have kd := k0.cell
    have HB1 := Lib.hid ((((HB0.out _ _).trans (hb1.mono (HB0.out _ _).size)).setCell (p := ⟨w.heap.size + 1, 0, none⟩) (by simp) (.int .i64 0)).setCell (p := ⟨w.heap.size + 1, 1, none⟩) (by simp) (.slice none 0 0))
    clear hb1 k0 k1
    go_wp2_with (go_at_call 48; refine (CI.out _).mono ?_; rintro e w' ⟨rfl, rfl⟩)
    refine bodyPost_ret (v := .tuple #[.agg #[.int .i64 0, .slice none 0 0], .bool false]) (by simp [results, Try.results8, go_sem, hc]) rfl (RetCs.no HN.out HB1.out)
  | true =>
  have CI := Lib.hid (fun W => l1In_b k 0 D true W hI)
  have HC : Hid (cutT D rows k = putAll [] (rows.map (cutRow k.toNat))) := Lib.hid (by simp [cutT, hT, hI])
  obtain ⟨hk1, hk2⟩ := inB_iff.1 hI
  obtain ⟨hD, hl60, hrow, -⟩ := tabB_iff.1 hT
  obtain ⟨hD1, hD2⟩ := inB_iff.1 hD
  have HROW := Lib.hid hrow
  obtain ⟨q, rfl⟩ : ∃ q : Nat, k = (q : Int) := ⟨k.toNat, by omega⟩
  rw [Int.toNat_natCast] at HC
  clear hT hI hD hrow
  go_enter Try.func8, Try.ntmps8
  go_wp2_with fail
  refine (CT.out _ (HB0.out _ _)).mono ?_
  rintro e w1 ⟨rfl, hb1⟩
  obtain ⟨k0, k1⟩ := box2b hb1
  have HB1 := Lib.hid (Below.then_ (HB0.out _ _) hb1)
  have HK0 := Lib.hid k0
  have HK1 := Lib.hid k1
  have kd := k0.cell
  have hz1 : w.heap.size + 1 < w1.heap.size := k1.lt
  have hb2 : Below w1.heap.size w1 (w1.alloc (.cells #[.int .i64 q, .slice none 0 0] 28)) := (Below.refl _ _).alloc (Nat.le_refl _) _
  have HB2 := Lib.hid (Below.then_ HB1.out hb2)
  have HK2 := Lib.hid (Blk.new w1 28 #[.int .i64 q, .slice none 0 0])
  have HK1' := Lib.hid (k1.below hb2)
  have kd2 := (k0.below hb2).cell
  clear hb1 k0 k1 hb2
  go_wp2_with (go_at_call 48; refine (CI.out _).mono ?_; rintro e w' ⟨rfl, rfl⟩)
  obtain ⟨gn, hgn⟩ : ∃ gn, gn = w1.heap.size := ⟨_, rfl⟩
  have hgz : w.heap.size + 1 < gn := by omega
  rw [← hgn] at HK2 ⊢
  clear hgn kd kd2
  generalize w1.alloc (.cells #[.int .i64 q, .slice none 0 0] 28) = w2 at *
  go_loopw [29] (fun x wr => ∃ (j : Nat) (acc : List RowT) (A : Option Addr) (c : Nat), j ≤ rows.length ∧ x = .int .i64 j ∧ putAll [] ((rows.take j).map (cutRow q)) = some acc ∧ acc.length ≤ j ∧ Blk wr (w.heap.size + 1) 28 #[.int .i64 0, .slice none 0 0] ∧
      Blk wr gn 28 #[.int .i64 q, .slice A acc.length c] ∧ SlR encR wr (fun b => w.heap.size ≤ b ∧ b ≠ gn ∧ b ≠ w.heap.size + 1) (.slice A acc.length c) acc ∧ Below w.heap.size w wr) (fun x _ => rows.length - (intOf x).toNat)
  case atStart => exact ⟨0, [], none, 0, Nat.zero_le _, rfl, rfl, Nat.le_refl _, HK1'.out, HK2.out, SlR.nil, HB2.out⟩
  case round =>
    obtain ⟨j, acc, Aa, ca, hj, rfl, hacc, hal, hkz, hkn, hsl, hbel⟩ := hrel
    have HACC := Lib.hid hacc
    have HKZ := Lib.hid hkz
    have HKN := Lib.hid hkn
    have HSL := Lib.hid hsl
    have HB := Lib.hid hbel
    clear hacc hkz hsl
    by_cases hlt : j < rows.length
    · obtain ⟨b, off, rfl, -, hbl, hc⟩ := HX.out (by omega)
      have hbr : b < wr.heap.size := by have := hbel.size; omega
      have c0 : wr.cell? ⟨b, off + j * 2, none⟩ = some (.string (ga rows j).1) := by rw [hbel.cell (by exact hbl)]; simpa [encR] using hc j hlt 0 (by decide)
      have c1 : wr.cell? ⟨b, off + j * 2 + 1, none⟩ = some (.int .i64 (ga rows j).2) := by rw [hbel.cell (by exact hbl)]; simpa [encR] using hc j hlt 1 (by decide)
      have i0 : (0 : Int) ≤ (j : Int) := by omega
      have i1 : (j : Int) < (rows.length : Int) := by omega
      have hbw : Below wr.heap.size wr (wr.alloc (.cells #[.string (ga rows j).1, .int .i64 (ga rows j).2] 84)) := (Below.refl _ _).alloc (Nat.le_refl _) _
      have HBW := Lib.hid hbw
      have HRW := Lib.hid (Blk.new wr 84 #[.string (ga rows j).1, .int .i64 (ga rows j).2])
      obtain ⟨t, ht⟩ : ∃ t, viewOf (ga rows j).1 = some t := by
        have := HROW.out j hlt
        unfold rowB at this
        split at this
        · exact ⟨_, by assumption⟩
        · cases this
      have HCUT : Hid (cutRow q (ga rows j) = (strB (t.txt q), (ga rows j).2)) := Lib.hid (by simp [cutRow, ht])
      have HWF := Lib.hid (viewOf_inv ht).2.2.1
      have HTL := Lib.hid (viewOf_txt ht q).1
      have hgr : wr.heap.size < (wr.alloc (.cells #[.string (ga rows j).1, .int .i64 (ga rows j).2] 84)).heap.size := by simp
      obtain ⟨gr, hgr2⟩ : ∃ gr, gr = wr.heap.size := ⟨_, rfl⟩
      have hkn2 := hkn.lt
      clear hc hbw hbel hkn
      go_wp2_with fail
      rw [← hgr2] at HRW hgr ⊢
      have HGR := Lib.hid hgr2
      clear hgr2
      generalize wr.alloc (.cells #[.string (ga rows j).1, .int .i64 (ga rows j).2] 84) = wa at *
      refine (spParse_any (ga rows j).1 wa).mono ?_
      rintro e wp ⟨pv1, ok1, rfl, hbp, hres⟩
      rw [ht] at hres
      obtain ⟨rfl, p, rfl, htr⟩ := hres
      have HTR := Lib.hid htr
      have HBP := Lib.hid (Below.then_ HBW.out hbp)
      have HSLP := Lib.hid ((HSL.out.below HBP.out).sized)
      have HKNP := Lib.hid (HKN.out.below HBP.out)
      have HRP := Lib.hid (HRW.out.below hbp)
      have HWP := Lib.hid (Below.then_ HB.out HBP.out)
      have HKS : Hid (∀ W, Below wp.heap.size wp W → (W.cell? ⟨gn, 0, none⟩ = some (.int .i64 q) ∧ W.cell? ⟨gn, 1, none⟩ = some (.slice Aa acc.length ca)) ∧ W.cell? ⟨gr, 1, none⟩ = some (.int .i64 (ga rows j).2)) := Lib.hid fun W hW => by
        refine ⟨⟨?_, ?_⟩, ?_⟩
        · rw [(HKNP.out.below hW).cell]; rfl
        · rw [(HKNP.out.below hW).cell]; rfl
        · rw [(HRP.out.below hW).cell]; rfl
      have hgrp : gr < wp.heap.size := HRP.out.lt
      have hgnp : gn < wp.heap.size := HKNP.out.lt
      have kn0 := HKNP.out.cell
      have kr0 := HRP.out.cell
      clear htr hbp c0 c1 ht
      go_upto_region 8 with (fail)
      go_cut [11, 12] (fun gp ok W => PutV (fun b => w.heap.size ≤ b ∧ b ≠ gn ∧ b ≠ w.heap.size + 1) q wp (putR (strB (t.txt q), (ga rows j).2) acc) gp ok W)
      case first =>
       go_region_held3 (fun W => (W.cell? ⟨gn, 0, none⟩ = some (.int .i64 q) ∧ W.cell? ⟨gn, 1, none⟩ = some (.slice Aa acc.length ca)) ∧ W.cell? ⟨gr, 1, none⟩ = some (.int .i64 (ga rows j).2))
        ((refine HKS.out _ ?_; repeat (first | with_reducible exact hbc' | with_reducible exact hbb' | with_reducible exact Below.refl _ _ | with_reducible refine Below.drew ?_ | with_reducible refine Below.alloc_ ?_ _ | with_reducible refine Below.set_ ?_ ?_ _ | exact hbb'.size | exact hbc'.size | exact Nat.le_refl _)))
        (first
          | (go_at_call 51; refine (viPrint_any (t.dep + 1) t _ _ p q (by omega) (HTR.out.below (by repeat (first | with_reducible exact hbc' | with_reducible exact hbb' | with_reducible exact Below.refl _ _ | with_reducible refine Below.drew ?_ | with_reducible refine Below.alloc_ ?_ _ | with_reducible refine Below.set_ ?_ ?_ _ | exact hbb'.size | exact hbc'.size | exact Nat.le_refl _))) HWF.out HTL.out (by omega)).mono ?_; rintro e wb ⟨rfl, hbb⟩; (try have KZ : Blk wb wp.heap.size 28 #[.int .i64 0, .slice none 0 0] := (hbb.block _ (by show wp.heap.size < (wp.alloc (.cells #[.int .i64 0, .slice none 0 0] 28)).heap.size; simp)).trans (Blk.new wp _ _)); (try have kz := KZ.cell); (try have kzf := KZ.free); have hbb' : Below wp.heap.size wp wb := (Below.then_ (by repeat (first | with_reducible exact hbc' | with_reducible exact hbb' | with_reducible exact Below.refl _ _ | with_reducible refine Below.drew ?_ | with_reducible refine Below.alloc_ ?_ _ | with_reducible refine Below.set_ ?_ ?_ _ | exact hbb'.size | exact hbc'.size | exact Nat.le_refl _)) hbb); have hgrb : gr < wb.heap.size := (by have := hbb'.size; omega); have hgnb : gn < wb.heap.size := (by have := hbb'.size; omega))
          | (go_at_call 50; refine (taPut_any (S := fun b => (w.heap.size ≤ b ∧ b ≠ gn ∧ b ≠ w.heap.size + 1) ∧ b < wp.heap.size) _ q acc (strB (t.txt q)) (ga rows j).2 _ (HSLP.out.below (by repeat (first | with_reducible exact hbc' | with_reducible exact hbb' | with_reducible exact Below.refl _ _ | with_reducible refine Below.drew ?_ | with_reducible refine Below.alloc_ ?_ _ | with_reducible refine Below.set_ ?_ ?_ _ | exact hbb'.size | exact hbc'.size | exact Nat.le_refl _))) (by omega)).mono ?_; intro e wc hpt; obtain ⟨A5, n5, c5, ok5, rfl, hbc, hres5⟩ := hpt.out; clear hpt; (try have KC : Blk wc wp.heap.size 28 #[.int .i64 0, .slice none 0 0] := Blk.below KZ hbc); (try have KC2 : Blk wc wb.heap.size 28 #[.int .i64 0, .slice none 0 0] := (hbc.block _ (by show wb.heap.size < (wb.alloc (.cells #[.int .i64 0, .slice none 0 0] 28)).heap.size; simp)).trans (Blk.new wb _ _)); (try have kc := KC.cell); (try have kcf := KC.free); (try have kc2 := KC2.cell); (try have kcf2 := KC2.free); have hbc' : Below wp.heap.size wp wc := (Below.then_ (by repeat (first | with_reducible exact hbc' | with_reducible exact hbb' | with_reducible exact Below.refl _ _ | with_reducible refine Below.drew ?_ | with_reducible refine Below.alloc_ ?_ _ | with_reducible refine Below.set_ ?_ ?_ _ | exact hbb'.size | exact hbc'.size | exact Nat.le_refl _)) hbc); have hgrc : gr < wc.heap.size := (by have := hbc'.size; omega); have hgnc : gn < wc.heap.size := (by have := hbc'.size; omega)))
       all_goals
        have HWS : Hid (w.heap.size ≤ wp.heap.size) := Lib.hid (by have := HWP.out.size; omega)
        have hbs := hbb'.size
        have hws := HWS.out
        go_wp2_with fail
        go_meet
        first
          | exact PutV.mk' hres5 (fun b h => by omega) (Blk.new wc _ _) (hbc'.alloc hbc'.size _) (fun b _ h => Below.heap_alloc wc _ b h) (by simp)
          | exact PutV.mk' hres5 (fun b h => by simp at h; omega) ((KC2.put 0 _).put 1 _) (Below.set_ (Below.set_ hbc' (by simp; omega) _) (by simp; omega) _) (fun b hb h => by simp only [World.size_alloc] at hb; rw [Below.heap_setCell _ _ _ _ (by simp; omega), Below.heap_setCell _ _ _ _ (by simp; omega)]) (by simp [World.setCell])
          | exact PutV.mk' hres5 (fun b h => by omega) ((KC.put 0 _).put 1 _) (Below.set_ (Below.set_ hbc' (by simp) _) (by simp) _) (fun b hb h => by have hzk := KZ.lt; rw [Below.heap_setCell _ _ _ _ (by simp; omega), Below.heap_setCell _ _ _ _ (by simp; omega)]) (by simp [World.setCell])
      case rest =>
      obtain ⟨g, A5, n5, c5, okb, rfl, rfl, hk, hb, hm⟩ := hcut
      have HBW2 := Lib.hid (HWP.out.trans (hb.mono HWP.out.size))
      have HKZ2 := Lib.hid ((HKZ.out.below HBP.out).below hb)
      have HKN2 := Lib.hid (HKNP.out.below hb)
      have HPA : Hid (putAll [] ((rows.take (j + 1)).map (cutRow q)) = putR (strB (t.txt q), (ga rows j).2) acc) := Lib.hid (by rw [putAll_take hlt HACC.out, HCUT.out])
      have kg := hk.cell
      have HK := Lib.hid hk
      clear hk hb kn0 kr0
      cases hp : putR (strB (t.txt q), (ga rows j).2) acc with
      | none =>
        rw [hp] at hm
        have hm : okb = false := hm
        subst hm
        have HN : Hid (cutT D rows q = none) := Lib.hid (by
          rw [HC.out]
          exact putAll_stop (j := j + 1) (HPA.out.trans hp))
        have hc1 := ((HKZ2.out.put 0 (.int .i64 0)).put 1 (.slice none 0 0)).cell
        have kz := HKZ2.out.cell
        have kzf := HKZ2.out.free
        have HB9 := Lib.hid ((HBW2.out.setCell (p := ⟨w.heap.size + 1, 0, none⟩) (by simp) (.int .i64 0)).setCell (p := ⟨w.heap.size + 1, 1, none⟩) (by simp) (.slice none 0 0))
        clear hp kg
        go_wp2_with fail
        refine bodyPost_ret (v := .tuple #[.agg #[.int .i64 0, .slice none 0 0], .bool false]) (by simp [results, Try.results8, go_sem, hc1]) rfl (RetCs.no HN.out HB9.out)
      | some m =>
        rw [hp] at hm
        obtain ⟨rfl, rfl, hs⟩ := hm
        have HS5 := Lib.hid hs
        have HML := Lib.hid (putR_len hp)
        have HP2 := Lib.hid (HPA.out.trans hp)
        have kn := HKN2.out.cell
        have knf := HKN2.out.free
        clear hp hs
        go_wp2_with fail
        go_roundw
        case rel =>
          exact ⟨j + 1, m, A5, c5, by omega, by go_num, HP2.out, by have := HML.out; omega, (HKZ2.out.far (p := ⟨gn, 0, none⟩) (by simp; omega) _).far (p := ⟨gn, 1, none⟩) (by simp; omega) _, (HKN2.out.put 0 _).put 1 _,
            ((HS5.out.far_ (p := ⟨gn, 0, none⟩) (fun b h => h.2.1) _).far_ (p := ⟨gn, 1, none⟩) (fun b h => h.2.1) _), (HBW2.out.setCell (by simp; omega) _).setCell (by simp; omega) _⟩
        case measure => simp [intOf]; omega
    · obtain rfl : j = rows.length := by omega
      have HF : Hid (cutT D rows q = some acc) := Lib.hid (by
        rw [HC.out, ← HACC.out, List.take_of_length_le (Nat.le_refl _)])
      have kz := HKZ.out.cell
      have kzf := HKZ.out.free
      have kn := HKN.out.cell
      have hc1 := ((HKZ.out.put 0 (.int .i64 q)).put 1 (.slice Aa acc.length ca)).cell
      have HB9 := Lib.hid ((HB.out.setCell (p := ⟨w.heap.size + 1, 0, none⟩) (by simp) (.int .i64 q)).setCell (p := ⟨w.heap.size + 1, 1, none⟩) (by simp) (.slice Aa acc.length ca))
      go_wp2_with fail
      refine bodyPost_ret (v := .tuple #[.agg #[.int .i64 q, .slice Aa acc.length ca], .bool true]) (by simp [results, Try.results8, go_sem, hc1]) rfl ?_
      refine ⟨HB9.out, ?_⟩
      rw [HF.out]
      exact ⟨Aa, ca, rfl, ((HSL.out.far_ (p := ⟨w.heap.size + 1, 0, none⟩) (fun b h => h.2.2) _).far_ (p := ⟨w.heap.size + 1, 1, none⟩) (fun b h => h.2.2) _).weak fun b h => h.1⟩
end Go.Proofs.Ytclkboemgneojaa
