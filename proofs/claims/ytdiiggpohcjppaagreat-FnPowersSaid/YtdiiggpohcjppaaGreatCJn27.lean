/- Parts of the proof, joined: Cn2, Cds, Dra. -/
import Derived.Test.YtdiiggpohcjppaaGreatCCn1
import Derived.Test.YtdiiggpohcjppaaGreatCJn6
import Derived.Test.YtdiiggpohcjppaaGreatCJn20
import Derived.Test.YtdiiggpohcjppaaGreatCNw3
import Derived.Test.YtdiiggpohcjppaaGreatCJn19
import Derived.Test.YtdiiggpohcjppaaGreatCJn8
set_option linter.unusedSimpArgs false
set_option linter.unusedVariables false
namespace Go.Proofs.YtdiiggpohcjppaaGreat
section
open Go.RowKit
def Hope (L p : Nat) (s : Int) (t k : Nat) : Prop := (p < L ∧ (L - p) + 281474976710658 ≤ k) ∨ (L ≤ p ∧ ∃ n : Nat, n + 1 ≤ k ∧ itS (n + 1) s / 1099511627776 % 256 = t)
theorem Hope.start (L p : Nat) (s : Int) (t : Nat) (ht : t < 256) (hL : L ≤ 1048576) : Hope L p s t 281474977759234 := by
 by_cases h : p < L
 ·exact .inl ⟨h, by omega⟩
 ·obtain ⟨n, hn, e⟩ := ob s t ht
  exact .inr ⟨by omega, n, by omega, e⟩
theorem Hope.next {L p : Nat} {s s' x : Int} {t v k : Nat} (h : Hope L p s t k) (ht : t < v) (hv : v ≤ 200) (hd : L ≤ p → s' = lcg s 0 ∧ x = s' / 1099511627776 % 256 % (v : Int)) :
 ∃ k', k' < k ∧ (x = (t : Int) ∨ Hope L (p + 1) s' t k') := by
 rcases h with ⟨h1, h2⟩ | ⟨h1, n, h2, h3⟩
 ·refine ⟨k - 1, by omega, .inr ?_⟩
  by_cases h : p + 1 < L
  ·exact .inl ⟨h, by omega⟩
  ·obtain ⟨n, hn, e⟩ := ob s' t (by omega)
   exact .inr ⟨by omega, n, by omega, e⟩
 ·obtain ⟨e1, e2⟩ := hd h1
  rcases n with _ | n
  ·refine ⟨k - 1, by omega, .inl ?_⟩
   have e3 : itS (0 + 1) s = lcg s 0 := rfl
   rw [e3, ← e1] at h3
   rw [e2, h3, Int.emod_eq_of_lt (by omega) (by omega)]
  ·refine ⟨k - 1, by omega, .inr (.inr ⟨by omega, n, by omega, ?_⟩)⟩
   rw [e1]
   have : itS (n + 1 + 1) s = itS (n + 1) (lcg s 0) := by
    rw [uo (n + 1) 1 s]; rfl
   rw [← this]; exact h3
theorem Sm {w W w5 : World} {B BO gc g r L A : Nat} {cv a b c x y z : Value} {rs : Array Value} {N' : Net} (hbx : Blk W g 27 #[a, b, c]) (hres : Blk W r 27 rs) (hne : r ≠ g) (hc : CurR W gc cv L A) (hcb : CurB B gc w W)
 (hf : FarV cv B) (hgc : gc < B) (hgB : B ≤ g) (hBO : BO ≤ W.heap.size) (hb : Below W.heap.size W w5) (ho : OwnNt w5 W.heap.size (.agg #[x, y, z]) N') :
 Blk (r9 w5 g x y z) g 27 #[x, y, z] ∧ OwnNt (r9 w5 g x y z) BO (.agg #[x, y, z]) N' ∧ CurR (r9 w5 g x y z) gc cv L A ∧ CurB B gc w (r9 w5 g x y z) ∧ Blk (r9 w5 g x y z) r 27 rs := by
 have hBW : B ≤ W.heap.size := by have := hbx.lt; omega
 have hb5 := hbx.below hb
 exact ⟨mg hb5, (ho.mono hBO).but (zx hb5) (by decide) (by decide) (by decide), (((hc.keep hb).above hf hgc (p := ⟨g, 0, none⟩) hgB x).above hf hgc (p := ⟨g, 1, none⟩) hgB y).above hf hgc (p := ⟨g, 2, none⟩) hgB z,
  (((hcb.trans (CurB.of_below hb hBW)).setCell (p := ⟨g, 0, none⟩) hgB x).setCell (p := ⟨g, 1, none⟩) hgB y).setCell (p := ⟨g, 2, none⟩) hgB z, (i7 _ _ _ _ _ hne).trans (hres.below hb)⟩
end
section
open Go.RowKit
section
variable {B gc L A : Nat} {cv : Value} {w w1 w2 : World}
theorem CurR.low (h : CurR w gc cv L A) (hl : LowB B w w1) (hf : FarV cv B) (hgc : gc < B) : CurR w1 gc cv L A := by
 obtain ⟨p, s, h1, h2, h3⟩ := h
 refine ⟨p, s, h1, (hl.block gc hgc).trans h2, ?_⟩
 obtain ⟨Ad, c, e, hL, hx⟩ := h3
 refine ⟨Ad, c, e, hL, fun hp0 => ?_⟩
 obtain ⟨b, off, hA, hne, hc⟩ := hx hp0
 refine ⟨b, off, hA, hne, fun j hj => ?_⟩
 obtain ⟨z, h1, h2, h3⟩ := hc j hj
 have hb : b < B := hf ⟨b, off, none⟩ L c (by rw [e, hA]) hp0
 exact ⟨z, h1, h2, (World.cell?_of_block (hl.block b hb)).trans h3⟩
theorem CurB.low (h : CurB B gc w w1) (hl : LowB B w1 w2) : CurB B gc w w2 :=
 ⟨hl.os.trans h.os, hl.tape.trans h.tape, hl.output.trans h.output, Nat.le_trans h.size hl.size, fun b hb hne => (hl.block b hb).trans (h.block b hb hne)⟩
end
structure DS (w : World) (gc : Nat) (cv : Value) (L A B g r : Nat) (x y z : Value) (N : Net) (W : World) : Prop where
 bx : Blk W g 27 #[x, y, z]
 ow : OwnNt W B (.agg #[x, y, z]) N
 cu : CurR W gc cv L A
 cb : CurB w.heap.size gc w W
 re : Blk W r 27 #[.slice none 0 0, .slice none 0 0, .slice none 0 0]
structure DF (w : World) (gc : Nat) (cv : Value) (B g r : Nat) : Prop where
 gcl : gc < w.heap.size
 far : FarV cv w.heap.size
 bl : w.heap.size ≤ B
 gle : w.heap.size ≤ g
 rl : w.heap.size ≤ r
 ne : r ≠ g
section
variable {w W W' : World} {gc L A A' B g r : Nat} {cv x y z : Value} {N : Net}
theorem DS.wsz (h : DS w gc cv L A B g r x y z N W) : w.heap.size ≤ W.heap.size := h.cb.size
theorem DS.mono (h : DS w gc cv L A B g r x y z N W) (hA : A ≤ A') : DS w gc cv L A' B g r x y z N W := ⟨h.bx, h.ow, h.cu.mono hA, h.cb, h.re⟩
theorem DS.below (h : DS w gc cv L A B g r x y z N W) (hb : Below W.heap.size W W') : DS w gc cv L A B g r x y z N W' :=
 ⟨h.bx.below hb, h.ow.below hb, h.cu.keep hb, h.cb.trans (CurB.of_below hb h.wsz), h.re.below hb⟩
theorem DS.drew (h : DS w gc cv L A B g r x y z N W) : DS w gc cv L A B g r x y z N W.drew := h.below (Below.refl _ _).drew
theorem DS.alloc (h : DS w gc cv L A B g r x y z N W) (o : Obj) : DS w gc cv L A B g r x y z N (W.alloc o) := h.below ((Below.refl _ _).alloc (Nat.le_refl _) o)
theorem DS.grown (h : DS w gc cv L A B g r x y z N W) (hF : DF w gc cv B g r) (hg : W.grownBy W' (some gc)) (hc : CurR W' gc cv L A') : DS w gc cv L A' B g r x y z N W' :=
 ⟨h.bx.grown hg (by have := hF.gcl; have := hF.gle; simp; omega), h.ow.grown hg (by have := hF.gcl; have := hF.bl; omega), hc, h.cb.trans (CurB.of_grown hg h.wsz), h.re.grown hg (by have := hF.gcl; have := hF.rl; simp; omega)⟩
theorem DS.parts (h : DS w gc cv L A B g r x y z N W) : OwnEs W B x N.ends ∧ OwnI W B y N.ids ∧ OwnI W B z N.inputs ∧ Apart y z := by
 obtain ⟨ve, vi, vn, hv, k1, k2, k3, k4⟩ := h.ow
 simp only [Value.agg.injEq, Array.mk.injEq, List.cons.injEq, and_true] at hv
 obtain ⟨rfl, rfl, rfl⟩ := hv
 exact ⟨k1, k2, k3, k4⟩
end
theorem IntsR.built (w : World) (t : TypeId) (xs : List Int) (hx : xs.length ≤ 100) : IntsR (w.alloc (.cells (xs.map (Value.int .i64)).toArray t)) (fun b => b = w.heap.size) (.slice (some ⟨w.heap.size, 0, none⟩) xs.length xs.length) xs :=
 ⟨_, xs.length, rfl, Nat.le_refl _, by unfold maxLen; omega, fun _ => ⟨w.heap.size, 0, rfl, rfl, fun j hj => by
  rw [Nat.zero_add, cell_of_row _ _ _ _ t (0, 0) (heap_alloc_new w _)]
  simp [gi, hj]⟩⟩
theorem DS.store {w W w5 : World} {gc L A g r : Nat} {cv x y z a b c : Value} {N : Net} (hbx : Blk W g 27 #[a, b, c]) (hres : Blk W r 27 #[.slice none 0 0, .slice none 0 0, .slice none 0 0]) (hne : r ≠ g) (hc : CurR W gc cv L A) (hcb : CurB w.heap.size gc w W) (hf : FarV cv w.heap.size) (hgc : gc < w.heap.size) (hg : w.heap.size ≤ g)
 (hb : Below W.heap.size W w5) (ho : OwnNt w5 W.heap.size (.agg #[x, y, z]) N) : DS w gc cv L A W.heap.size g r x y z N (r9 w5 g x y z) := by
 obtain ⟨p1, p2, p3, p4, p5⟩ := Sm (BO := W.heap.size) hbx hres hne hc hcb hf hgc hg (Nat.le_refl _) hb ho
 exact ⟨p1, p2, p3, p4, p5⟩
theorem OwnI.built (w : World) (B : Nat) (xs : List Int) (hB : B ≤ w.heap.size) (hx : xs.length ≤ 100) : OwnI (w.alloc (.cells (xs.map (Value.int .i64)).toArray 3)) B (.slice (some ⟨w.heap.size, 0, none⟩) xs.length xs.length) xs :=
 ⟨by simp [ic], .inr ⟨w.heap.size, xs.length, _, rfl, hB, heap_alloc_new w _, Nat.le_refl _, by unfold maxLen; omega, by simp, by simp [ic, List.take_of_length_le]⟩⟩
end
section
open Go.RowKit
def CodeR (w : World) (cv : Value) (L : Nat) : Prop :=
 ∃ A c, cv = .slice A L c ∧ L ≤ 1048576 ∧ (0 < L → ∃ b off, A = some ⟨b, off, none⟩ ∧ ∀ j, j < L → ∃ z : Int, 0 ≤ z ∧ z ≤ 255 ∧ w.cell? ⟨b, off + j, none⟩ = some (.int .u8 z))
section
variable {w w' w1 : World} {cv : Value} {L gc B : Nat}
theorem CodeR.far (h : CodeR w cv L) : FarV cv w.heap.size := by
 obtain ⟨A, c, rfl, -, hx⟩ := h
 intro ad n c' e hn
 simp only [Value.slice.injEq] at e
 obtain ⟨rfl, rfl, rfl⟩ := e
 obtain ⟨b, off, e2, hc⟩ := hx hn
 obtain ⟨z, -, -, h3⟩ := hc 0 hn
 simp only [Option.some.injEq] at e2
 subst e2
 exact au h3
theorem CodeR.below (h : CodeR w cv L) (hb : Below w.heap.size w w') : CodeR w' cv L := by
 obtain ⟨A, c, rfl, hL, hx⟩ := h
 refine ⟨A, c, rfl, hL, fun hp => ?_⟩
 obtain ⟨b, off, e2, hc⟩ := hx hp
 refine ⟨b, off, e2, fun j hj => ?_⟩
 obtain ⟨z, h1, h2, h3⟩ := hc j hj
 exact ⟨z, h1, h2, (World.cell?_of_block (hb.block b (au h3))).trans h3⟩
end
structure NB (W : World) (B g : Nat) (x y z : Value) (N : Net) : Prop where
 bx : Blk W g 27 #[x, y, z]
 ow : OwnNt W B (.agg #[x, y, z]) N
section
variable {w W W' : World} {B g gc r : Nat} {x y z a b c : Value} {N : Net}
theorem NB.below (h : NB W B g x y z N) (hb : Below W.heap.size W W') : NB W' B g x y z N := ⟨h.bx.below hb, h.ow.below hb⟩
theorem NB.drew (h : NB W B g x y z N) : NB W.drew B g x y z N := h.below (Below.refl _ _).drew
theorem NB.alloc (h : NB W B g x y z N) (o : Obj) : NB (W.alloc o) B g x y z N := h.below ((Below.refl _ _).alloc (Nat.le_refl _) o)
theorem NB.grown (h : NB W B g x y z N) (hg : W.grownBy W' (some gc)) (h1 : gc < B) (h2 : g ≠ gc) : NB W' B g x y z N := ⟨h.bx.grown hg (by simpa using h2), h.ow.grown hg h1⟩
theorem NB.made (ho : OwnNt W B (.agg #[x, y, z]) N) : NB (W.alloc (.cells #[x, y, z] 27)) B W.heap.size x y z N := ⟨Blk.new W _ _, ho.below ((Below.refl _ _).alloc (Nat.le_refl _) _)⟩
end
end
end Go.Proofs.YtdiiggpohcjppaaGreat
