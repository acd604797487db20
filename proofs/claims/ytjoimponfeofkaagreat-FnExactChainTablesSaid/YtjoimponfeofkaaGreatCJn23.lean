/- Parts of the proof, joined: Sx3, Sxp. -/
import Derived.Test.YtjoimponfeofkaaGreatCJn19
import Derived.Test.YtjoimponfeofkaaGreatCJn9
import Derived.Test.YtjoimponfeofkaaGreatCSli
import Derived.Test.YtjoimponfeofkaaGreatCTab2
import Derived.Test.YtjoimponfeofkaaGreatCJn1
import Derived.Deep.RegionHeld3
namespace Go.Proofs.YtjoimponfeofkaaGreat
open Go.RowKit

theorem rowElem : Nonempty (ElemT Tryz.prog encR 33 76) := ElemT.of (z := .agg #[.string ByteArray.empty, .int .i64 0]) (n := 2) (bytes := 24) Tryz.underlying33 (by kernel_rfl) rfl rfl (by omega)
theorem rowSize : ∀ W, (sizeOf 76).run Tryz.prog W = .ok 2 W := fun W => Tryz.sizeOf76 W
/-- what taPut gives -/
def RetPt (w : World) (S : Nat → Prop) (D : Int) (x : Option (List RowT)) (e : Ending) (w' : World) : Prop :=
  ∃ v ok, e = .returned (.tuple #[.agg #[.int .i64 D, v], .bool ok]) ∧ Below w.heap.size w w' ∧ (match x with
    | none => ok = false ∧ ∃ A n c, v = .slice A n c
    | some m => ok = true ∧ SlR encR w' (fun b => S b ∨ w.heap.size ≤ b) v m)

set_option maxRecDepth 100000 in
set_option maxHeartbeats 2000000 in
theorem taPut_any {S : Nat → Prop} (v : Value) (D : Int) (rows : List RowT) (s : ByteArray) (o : Int) (w : World) (h : SlR encR w S v rows) (hn : rows.length ≤ 2097152) :
    Calls Tryz.prog 74 #[.agg #[.int .i64 D, v], .agg #[.string s, .int .i64 o]] w (RetPt w S D (putR (s, o) rows)) := by
  have HR := Lib.hid h
  obtain ⟨A, c, rfl, hnc, hm, hx⟩ := h
  unfold maxLen at hm
  have HX := Lib.hid hx
  have HSL := Lib.hid (fun k (hk : k ≤ c) => run_slice_hi (P := Tryz.prog) Tryz.underlying33 rowSize A rows.length c k hk)
  have HSR := Lib.hid (fun k (hk : k ≤ rows.length) => run_slice_lo (P := Tryz.prog) Tryz.underlying33 rowSize A rows.length c k hk)
  clear hx
  have hb0 : ∀ o1 o2 o3, Below w.heap.size w (((w.alloc o1).alloc o2).alloc o3) := fun o1 o2 o3 => (((Below.refl _ _).alloc (Nat.le_refl _) _).alloc (by simp) _).alloc (by simp; omega) _
  have HB0 := Lib.hid hb0
  clear hb0
  go_enter Tryz.func74, Tryz.ntmps74
  go_wp2_with fail
  refine (taFind_any _ D rows s _ (HR.out.below (HB0.out _ _ _))).mono ?_
  rintro e w1 ⟨k, is, rfl, hfd, hb1⟩
  obtain ⟨k0, k1, k2⟩ := box3 hb1
  have HF := Lib.hid (putR_find (r := (s, o)) hfd)
  have HFD := Lib.hid hfd
  have HB1 := Lib.hid (Below.then_ (HB0.out _ _ _) hb1)
  have HK0 := Lib.hid k0
  have HK1 := Lib.hid k1
  have HK2 := Lib.hid k2
  clear hb1 k0 k1 k2 hfd
  have h0c := HK0.out.cell
  have h1c := HK1.out.cell
  have h2c := HK2.out.cell
  have h2f := HK2.out.free
  have hkn : k ≤ rows.length := HFD.out.1
  have hz2 : w.heap.size + 1 + 1 < w1.heap.size := HK2.out.lt
  have hz1 : w.heap.size + 1 < w1.heap.size := by omega
  have hz0 : w.heap.size < w1.heap.size := by omega
  cases is with
  | true =>
    obtain ⟨hlt, heq⟩ := HFD.out.2.2.2.1 rfl
    have HF2 := Lib.hid (HF.out.trans (if_pos rfl))
    clear heq
    obtain ⟨b, off, rfl, -, hbl, hc⟩ := HX.out (by omega)
    have c1 : w1.cell? ⟨b, off + k * 2 + 1, none⟩ = some (.int .i64 (ga rows k).2) := by
      rw [HB1.out.cell (p := ⟨b, off + k * 2 + 1, none⟩) hbl]; simpa [encR] using hc k hlt 1 (by decide)
    have i0 : (0 : Int) ≤ (k : Int) := by omega
    have i1 : (k : Int) < (rows.length : Int) := by omega
    clear hc
    by_cases he : (ga rows k).2 = o
    · have e1 : ((ga rows k).2 == o) = true := by simp [he]
      have HE : Hid (putR (s, o) rows = some rows) := Lib.hid (HF2.out.trans (if_pos he))
      clear he
      go_wp2_with fail
      go_region_law (fail)
      all_goals
        have hf3 := Blk.cell (show Blk ((w1.setCell ⟨w.heap.size + 1 + 1, 0, none⟩ (.int .i64 D)).setCell ⟨w.heap.size + 1 + 1, 1, none⟩ (.slice (some ⟨b, off, none⟩) rows.length c)) (w.heap.size + 1 + 1) 35 #[.int .i64 D, .slice (some ⟨b, off, none⟩) rows.length c] from (HK2.out.put 0 _).put 1 _)
        have HB9 := Lib.hid ((HB1.out.setCell (p := ⟨w.heap.size + 1 + 1, 0, none⟩) (by simp; omega) (.int .i64 D)).setCell (p := ⟨w.heap.size + 1 + 1, 1, none⟩) (by simp; omega) (.slice (some ⟨b, off, none⟩) rows.length c))
        go_wp2_with fail
        simp [Act.put]
        refine bodyPost_ret (v := .tuple #[.agg #[.int .i64 D, .slice (some ⟨b, off, none⟩) rows.length c], .bool true]) (by simp [results, Tryz.results74, go_sem, hf3]) rfl ?_
        refine ⟨_, true, rfl, HB9.out.drew, ?_⟩
        rw [HE.out]
        exact ⟨rfl, (HR.out.below HB9.out.drew).weak fun _ h => .inl h⟩
    · have e1 : ((ga rows k).2 == o) = false := by simp [he]
      have HE : Hid (putR (s, o) rows = none) := Lib.hid (HF2.out.trans (if_neg he))
      clear he
      go_wp2_with fail
      go_region_law (fail)
      all_goals
        have hf3 := Blk.cell (show Blk ((w1.setCell ⟨w.heap.size + 1 + 1, 0, none⟩ (.int .i64 D)).setCell ⟨w.heap.size + 1 + 1, 1, none⟩ (.slice (some ⟨b, off, none⟩) rows.length c)) (w.heap.size + 1 + 1) 35 #[.int .i64 D, .slice (some ⟨b, off, none⟩) rows.length c] from (HK2.out.put 0 _).put 1 _)
        have HB9 := Lib.hid ((HB1.out.setCell (p := ⟨w.heap.size + 1 + 1, 0, none⟩) (by simp; omega) (.int .i64 D)).setCell (p := ⟨w.heap.size + 1 + 1, 1, none⟩) (by simp; omega) (.slice (some ⟨b, off, none⟩) rows.length c))
        go_wp2_with fail
        simp [Act.put]
        refine bodyPost_ret (v := .tuple #[.agg #[.int .i64 D, .slice (some ⟨b, off, none⟩) rows.length c], .bool false]) (by simp [results, Tryz.results74, go_sem, hf3]) rfl ?_
        refine ⟨_, false, rfl, HB9.out.drew, ?_⟩
        rw [HE.out]
        exact ⟨rfl, _, _, _, rfl⟩
  | false =>
    have HF2 := Lib.hid (HF.out.trans (if_neg (by simp)))
    have hsl := HSL.out k (by omega)
    have hsr := HSR.out k hkn
    obtain ⟨A1, c1, hA1⟩ : ∃ A1 c1, Go.sliced A 0 k c 2 = .slice A1 k c1 := ⟨_, _, rfl⟩
    obtain ⟨A2, c2, hA2⟩ : ∃ A2 c2, Go.sliced A k rows.length c 2 = .slice A2 (rows.length - k) c2 := ⟨_, _, rfl⟩
    have HV1 : Hid (SlR encR w S (.slice A1 k c1) (rows.take k)) := Lib.hid (by rw [← hA1]; exact HR.out.sliced 0 k (by omega) hkn)
    have HV2 : Hid (SlR encR w S (.slice A2 (rows.length - k) c2) (rows.drop k)) := Lib.hid (by
      rw [← hA2]
      have := HR.out.sliced k rows.length hkn (Nat.le_refl _)
      rwa [List.take_of_length_le (by simp)] at this)
    rw [hA1] at hsl
    rw [hA2] at hsr
    have hsq : rows.length - k ≤ 2097152 := by omega
    have HLT : Hid ((rows.take k).length = k) := Lib.hid (by simp; omega)
    have HLD : Hid ((rows.drop k).length = rows.length - k) := Lib.hid (by simp)
    clear hA1 hA2 HF
    have HS1 : Hid (SlR encR (w1.alloc (.cells #[] 76)) S (.slice A1 k c1) (rows.take k)) := Lib.hid (HV1.out.below (Below.then_ HB1.out ((Below.refl w1.heap.size w1).alloc (Nat.le_refl _) _)))
    go_upto_region 5 with (refine wpList_append_G rowElem (S := S) _ rfl (.tmp 27) (.tmp 31) rfl w1.heap.size _ [] rfl (OwnG.made _ rfl (Nat.le_refl _)) _ (rows.take k) rfl HS1.out (by rw [HLT.out]; simp; omega) (by simp) ?_; intro A3 c3 w2 ho hg hl)
    have HO3 : Hid (OwnG encR 76 w2 w1.heap.size (.slice A3 k c3) (rows.take k)) := Lib.hid (by simpa [HLT.out] using ho)
    have HB2 : Hid (Below w1.heap.size w1 w2) := Lib.hid (((Below.refl w1.heap.size w1).alloc (Nat.le_refl _) _).grown hg (by simp) (fun k hk => by cases hk; exact Nat.le_refl _))
    have hz4 : w1.heap.size ≤ w2.heap.size := HB2.out.size
    have hz0' : w.heap.size < w2.heap.size := by omega
    have hz1' : w.heap.size + 1 < w2.heap.size := by omega
    have hz2' : w.heap.size + 1 + 1 < w2.heap.size := by omega
    have HK0' := Lib.hid (HK0.out.below HB2.out)
    have HK1' := Lib.hid (HK1.out.below HB2.out)
    have HK2' := Lib.hid (HK2.out.below HB2.out)
    have h1c' := HK1'.out.cell
    clear ho hg hl h0c h1c h2c h2f hz0 hz1 hz2 HS1
    go_upto_region 6 with (refine wpList_append_G rowElem (S := fun _ => True) _ rfl (.tmp 33) (.tmp 35) rfl w1.heap.size _ (rows.take k) rfl (HO3.out.below ((Below.refl w2.heap.size w2).alloc (Nat.le_refl _) _)) _ [(s, o)] rfl (SlR.one (E := encR) (x := (s, o)) (Blk.newAt rfl)) (by rw [HLT.out]; simp; omega) (by simp; omega) ?_; intro A4 c4 w3 ho hg hl)
    have HO4 : Hid (OwnG encR 76 w3 w1.heap.size (.slice A4 (k + 1) c4) (rows.take k ++ [(s, o)])) := Lib.hid (by simpa [HLT.out] using ho)
    have HB3 : Hid (Below w1.heap.size w1 w3) := Lib.hid ((HB2.out.alloc HB2.out.size _).grown hg (by simp; omega) (fun k hk => ((HO3.out.below ((Below.refl w2.heap.size w2).alloc (Nat.le_refl _) (.cells #[.string s, .int .i64 o] 76))).lt k hk).1))
    have hz5 : w1.heap.size ≤ w3.heap.size := HB3.out.size
    have HK0'' := Lib.hid (HK0.out.below HB3.out)
    have HK2'' := Lib.hid (HK2.out.below HB3.out)
    have h0d := HK0''.out.cell
    have h2d := HK2''.out.cell
    have h2e := HK2''.out.free
    have HV3 := Lib.hid (HV2.out.below (Below.then_ HB1.out HB3.out))
    clear ho hg hl h1c' hz0' hz1' hz2' HK0' HK1' HK2' HB2 HO3 hz4
    have hzz2 : w.heap.size + 1 + 1 < w1.heap.size := HK2.out.lt
    go_cut [5] (fun x W => x = .bool true ∧ ∃ A5 c5, OwnG encR 76 W w1.heap.size (.slice A5 (rows.length + 1) c5) (rows.take k ++ (s, o) :: rows.drop k) ∧ Blk W (w.heap.size + 1 + 1) 35 #[.int .i64 D, .slice A5 (rows.length + 1) c5] ∧ Below w.heap.size w W)
    case first =>
      go_region_law (refine step_append_G rowElem (S := S) _ rfl (.tmp 39) (.tmp 43) rfl w1.heap.size (.slice A4 (k + 1) c4) (rows.take k ++ [(s, o)]) (by simp [go_sem]) (HO4.out.below (Below.refl w3.heap.size w3).drew) (.slice A2 (rows.length - k) c2) (rows.drop k) (by simp [go_sem]) (HV3.out.below (Below.refl w3.heap.size w3).drew) (by simp; omega) hz5 ?_; intro A5 c5 w4 ho5 hg5 hl5; generalize hN5 : (rows.take k ++ [(s, o)]).length + (rows.drop k).length = N5 at *; obtain rfl : N5 = rows.length + 1 := (by rw [← hN5]; simp only [List.length_append, List.length_take, List.length_drop, List.length_cons, List.length_nil]; omega); clear hN5; have HB4 := Lib.hid ((Below.refl w1.heap.size w3).drew.grown hg5 hz5 (fun k hk => (HO4.out.lt k hk).1)); have h0g := Blk.cell (show Blk w4 w.heap.size 35 #[.int .i64 D, .slice A rows.length c] from (HB4.out.block _ (by omega)).trans HK0''.out); have h2g := Blk.cell (show Blk w4 (w.heap.size + 1 + 1) 35 #[.int .i64 0, .slice none 0 0] from (HB4.out.block _ (by omega)).trans HK2''.out); have h2h := Blk.free (show Blk w4 (w.heap.size + 1 + 1) 35 #[.int .i64 0, .slice none 0 0] from (HB4.out.block _ (by omega)).trans HK2''.out); have HK5 := Lib.hid (show Blk w4 (w.heap.size + 1 + 1) 35 #[.int .i64 0, .slice none 0 0] from (HB4.out.block _ (by omega)).trans HK2''.out); have HO5 := Lib.hid ho5; clear ho5 hg5 hl5)
      all_goals
        have HF : Hid (OwnG encR 76 ((w4.setCell ⟨w.heap.size + 1 + 1, 0, none⟩ (.int .i64 D)).setCell ⟨w.heap.size + 1 + 1, 1, none⟩ (.slice A5 (rows.length + 1) c5)) w1.heap.size (.slice A5 (rows.length + 1) c5) (rows.take k ++ (s, o) :: rows.drop k) ∧ Blk ((w4.setCell ⟨w.heap.size + 1 + 1, 0, none⟩ (.int .i64 D)).setCell ⟨w.heap.size + 1 + 1, 1, none⟩ (.slice A5 (rows.length + 1) c5)) (w.heap.size + 1 + 1) 35 #[.int .i64 D, .slice A5 (rows.length + 1) c5] ∧ Below w.heap.size w ((w4.setCell ⟨w.heap.size + 1 + 1, 0, none⟩ (.int .i64 D)).setCell ⟨w.heap.size + 1 + 1, 1, none⟩ (.slice A5 (rows.length + 1) c5))) := Lib.hid ⟨by
            refine HO5.out.keepB (fun b hb => ?_) |> fun h => by simpa using h
            have := (HO5.out.lt b hb).1
            rw [Below.heap_setCell _ _ _ _ (by simp; omega), Below.heap_setCell _ _ _ _ (by simp; omega)],
          (HK5.out.put 0 (.int .i64 D)).put 1 (.slice A5 (rows.length + 1) c5),
          ((Below.then_ HB1.out (HB3.out.trans HB4.out)).setCell (by simp; omega) _).setCell (by simp; omega) _⟩
        go_wp2_with fail
        simp [Act.put]
        go_meet
        exact ⟨rfl, A5, c5, HF.out⟩
    case rest =>
    obtain ⟨rfl, A5, c5, ho, hk, hb⟩ := hcut
    have HO := Lib.hid ho
    have HB := Lib.hid hb
    have hc := hk.cell
    clear ho hb hk
    go_wp2_with fail
    refine bodyPost_ret (v := .tuple #[.agg #[.int .i64 D, .slice A5 (rows.length + 1) c5], .bool true]) (by simp [results, Tryz.results74, go_sem, hc]) rfl ?_
    refine ⟨_, true, rfl, HB.out, ?_⟩
    rw [HF2.out]
    exact ⟨rfl, HO.out.slr fun b hb _ => .inr (by omega)⟩
end Go.Proofs.YtjoimponfeofkaaGreat

namespace Go.Proofs.YtjoimponfeofkaaGreat
open Go.RowKit

theorem putR_len {r : RowT} {l m : List RowT} (h : putR r l = some m) : m.length ≤ l.length + 1 := by
  induction l generalizing m with
  | nil => simp [putR] at h; subst h; simp
  | cons y l ih =>
    simp only [putR] at h
    split at h
    · cases hp : putR r l with
      | none => simp [hp] at h
      | some m' => simp [hp] at h; subst h; have := ih hp; simp; omega
    · split at h
      · split at h
        · simp at h; subst h; simp
        · cases h
      · simp at h; subst h; simp
theorem putAll_take {f : RowT → RowT} {rows : List RowT} {j : Nat} {acc : List RowT} (hj : j < rows.length) (h : putAll [] ((rows.take j).map f) = some acc) : putAll [] ((rows.take (j + 1)).map f) = putR (f (ga rows j)) acc := by
  rw [List.take_succ_eq_append_getElem hj, List.map_append, List.map_cons, List.map_nil, putAll_snoc, h, ga_lt hj]; rfl
theorem putAll_stop {f : RowT → RowT} {rows : List RowT} {j : Nat} (h : putAll [] ((rows.take j).map f) = none) : putAll [] (rows.map f) = none := by
  have key : ∀ (xs ys acc : List RowT), putAll acc xs = none → putAll acc (xs ++ ys) = none := by
    intro xs
    induction xs with
    | nil => intro ys acc h; simp [putAll] at h
    | cons x xs ih =>
      intro ys acc h
      simp only [putAll, List.cons_append] at h ⊢
      cases hp : putR x acc with
      | none => rfl
      | some a => rw [hp] at h; exact ih ys a h
  have := key _ ((rows.drop j).map f) [] h
  rwa [← List.map_append, List.take_append_drop] at this

/-- what the reference's CutTable gives -/
def RetCs (w : World) (k : Int) (x : Option (List RowT)) (e : Ending) (w' : World) : Prop := Below w.heap.size w w' ∧ (match x with
  | none => e = .returned (.tuple #[.agg #[.int .i64 0, .slice none 0 0], .bool false])
  | some m => ∃ A c, e = .returned (.tuple #[.agg #[.int .i64 k, .slice A m.length c], .bool true]) ∧ SlR encR w' (fun q => w.heap.size ≤ q) (.slice A m.length c) m)
theorem RetCs.no {w w' : World} {k : Int} {x : Option (List RowT)} (h : x = none) (hb : Below w.heap.size w w') : RetCs w k x (.returned (.tuple #[.agg #[.int .i64 0, .slice none 0 0], .bool false])) w' := by subst h; exact ⟨hb, rfl⟩
theorem cells22 {W : World} {g g' : Nat} {t t' : TypeId} {a b a' b' : Value} (h : Blk W g t #[a, b]) (h' : Blk W g' t' #[a', b']) :
    W.cell? ⟨g, 0, none⟩ = some a ∧ W.cell? ⟨g, 1, none⟩ = some b ∧ W.cell? ⟨g', 0, none⟩ = some a' ∧ W.cell? ⟨g', 1, none⟩ = some b' :=
  ⟨by rw [h.cell]; rfl, by rw [h.cell]; rfl, by rw [h'.cell]; rfl, by rw [h'.cell]; rfl⟩
theorem taGood_b {S : Nat → Prop} (v : Value) (D : Int) (rows : List RowT) (b : Bool) (w : World) (h : SlR encR w S v rows) (hb : tabB D rows = b) : Calls Tryz.prog 54 #[.agg #[.int .i64 D, v]] w (RetV w (.bool b)) := by subst hb; exact taGood_any v D rows w h

def PtV (w : World) (S : Nat → Prop) (x : Option (List RowT)) (A : Option Addr) (n c : Nat) (ok : Bool) (w' : World) : Prop := match x with
  | none => ok = false
  | some m => ok = true ∧ n = m.length ∧ SlR encR w' (fun b => S b ∨ w.heap.size ≤ b) (.slice A n c) m
theorem RetPt.out {w w' : World} {S : Nat → Prop} {D : Int} {x : Option (List RowT)} {e : Ending} (h : RetPt w S D x e w') :
    ∃ A n c ok, e = .returned (.tuple #[.agg #[.int .i64 D, .slice A n c], .bool ok]) ∧ Below w.heap.size w w' ∧ PtV w S x A n c ok w' := by
  obtain ⟨v, ok, rfl, hb, hx⟩ := h
  cases x with
  | none => obtain ⟨rfl, A, n, c, rfl⟩ := hx; exact ⟨A, n, c, false, rfl, hb, rfl⟩
  | some m =>
    obtain ⟨rfl, hs⟩ := hx
    have hs' := hs
    obtain ⟨A, c, rfl, -, -, -⟩ := hs
    exact ⟨A, m.length, c, true, rfl, hb, rfl, rfl, hs'⟩

theorem SlR.far_ {α : Type} [Inhabited α] {E : Enc α} {w : World} {S : Nat → Prop} {v : Value} {xs : List α} (h : SlR E w S v xs) {p : Addr} (hp : ∀ b, S b → b ≠ p.block) (u : Value) : SlR E (w.setCell p u) S v xs :=
  h.keep (fun _ h => h) (by simp [World.setCell]) fun b hb _ => Below.heap_setCell w p u b (hp b hb)
/-- the table behind taPut, in a block of its own -/
def PutV (S0 : Nat → Prop) (q : Nat) (wp : World) (x : Option (List RowT)) (gp ok : Value) (W : World) : Prop :=
  ∃ (g A : _) (n c : Nat) (okb : Bool), gp = .pointer (some ⟨g, 0, none⟩) ∧ ok = .bool okb ∧ Blk W g 35 #[.int .i64 (q : Nat), .slice A n c] ∧ Below wp.heap.size wp W ∧ (match x with
    | none => okb = false
    | some m => okb = true ∧ n = m.length ∧ SlR encR W S0 (.slice A n c) m)
theorem PutV.mk' {S0 : Nat → Prop} {q : Nat} {wp w0 wc W : World} {x : Option (List RowT)} {g n c : Nat} {A : Option Addr} {ok : Bool} (hx : PtV w0 (fun b => S0 b ∧ b < wp.heap.size) x A n c ok wc) (hB : ∀ b, w0.heap.size ≤ b → S0 b) (hk : Blk W g 35 #[.int .i64 (q : Nat), .slice A n c]) (hb : Below wp.heap.size wp W)
    (hW : ∀ b, (S0 b ∧ b < wp.heap.size) ∨ w0.heap.size ≤ b → b < wc.heap.size → W.heap[b]? = wc.heap[b]?) (hs : wc.heap.size ≤ W.heap.size) : PutV S0 q wp x (.pointer (some ⟨g, 0, none⟩)) (.bool ok) W := by
  refine ⟨g, A, n, c, ok, rfl, rfl, hk, hb, ?_⟩
  cases x with
  | none => exact hx
  | some m =>
    obtain ⟨h1, h2, h3⟩ := hx
    exact ⟨h1, h2, (SlR.keep h3 (fun _ h => h) hs hW).weak fun b hb => by rcases hb with hb | hb; exact hb.1; exact hB b hb⟩

end Go.Proofs.YtjoimponfeofkaaGreat
