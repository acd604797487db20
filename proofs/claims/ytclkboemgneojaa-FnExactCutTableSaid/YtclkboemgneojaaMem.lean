/- How slices of numbers, of pairs of numbers, of such slices, and networks lie in memory; these readings stand in later worlds. No program in sight. -/
import Derived.WalkKit
import Derived.WalkSpells
import Derived.WalkLawsBesides
import Derived.Outline
import Derived.Lib.Hide
import Derived.Deep.OwnRows
import Derived.OwnWalk
import Derived.Maps.AppendAt
import Derived.Deep.AppendLies
import Derived.Deep.QuietTactic
import Derived.BigQuiet
import Derived.Deep.LoopGhost
namespace Go.Proofs.Ytclkboemgneojaa
open Go.RowKit

/-- the number at a place of a list -/
def gi (xs : List Int) (j : Nat) : Int := xs.getD j 0
/-- the pair at a place -/
def gp (es : List (Int × Int)) (j : Nat) : Int × Int := es.getD j (0, 0)
/-- the list at a place -/
def gl (ess : List (List (Int × Int))) (j : Nat) : List (Int × Int) := ess.getD j []

theorem gi_lt {xs : List Int} {j : Nat} (h : j < xs.length) : gi xs j = xs[j] := by simp [gi, h]
theorem gp_lt {xs : List (Int × Int)} {j : Nat} (h : j < xs.length) : gp xs j = xs[j] := by simp [gp, h]
theorem gl_lt {xs : List (List (Int × Int))} {j : Nat} (h : j < xs.length) : gl xs j = xs[j] := by simp [gl, h]

theorem lt_of_cell {w : World} {b o : Nat} {v : Value} (h : w.cell? ⟨b, o, none⟩ = some v) : b < w.heap.size := World.block_lt_of_cell? w _ h

/-- a slice of ints; its block meets S -/
def IntsR (w : World) (S : Nat → Prop) (v : Value) (xs : List Int) : Prop :=
  ∃ A c, v = .slice A xs.length c ∧ xs.length ≤ c ∧ c ≤ maxLen ∧
    (0 < xs.length → ∃ b off, A = some ⟨b, off, none⟩ ∧ S b ∧ ∀ j, j < xs.length → w.cell? ⟨b, off + j, none⟩ = some (.int .i64 (gi xs j)))

/-- a slice of pairs of ints -/
def EndsR (w : World) (S : Nat → Prop) (v : Value) (es : List (Int × Int)) : Prop :=
  ∃ A c, v = .slice A es.length c ∧ es.length ≤ c ∧ c ≤ maxLen ∧
    (0 < es.length → ∃ b off, A = some ⟨b, off, none⟩ ∧ S b ∧ ∀ j, j < es.length →
      w.cell? ⟨b, off + j * 2, none⟩ = some (.int .i64 (gp es j).1) ∧ w.cell? ⟨b, off + j * 2 + 1, none⟩ = some (.int .i64 (gp es j).2))

/-- a slice of slices of pairs -/
def EndSSR (w : World) (S : Nat → Prop) (v : Value) (ess : List (List (Int × Int))) : Prop :=
  ∃ A c, v = .slice A ess.length c ∧ ess.length ≤ c ∧ c ≤ maxLen ∧
    (0 < ess.length → ∃ b off, A = some ⟨b, off, none⟩ ∧ S b ∧ ∀ j, j < ess.length →
      ∃ u, w.cell? ⟨b, off + j, none⟩ = some u ∧ EndsR w S u (gl ess j))

structure Net where
  ends : List (List (Int × Int))
  ids : List Int
  inputs : List Int

def NetR (w : World) (S : Nat → Prop) (v : Value) (N : Net) : Prop :=
  ∃ ve vi vn, v = .agg #[ve, vi, vn] ∧ EndSSR w S ve N.ends ∧ IntsR w S vi N.ids ∧ IntsR w S vn N.inputs

section
variable {w w' : World} {S S' : Nat → Prop} {v : Value}

theorem IntsR.keep {xs} (h : IntsR w S v xs) (hS : ∀ b, S b → S' b) (hk : ∀ b, S b → b < w.heap.size → w'.heap[b]? = w.heap[b]?) : IntsR w' S' v xs := by
  obtain ⟨A, c, hv, h1, h2, h3⟩ := h
  refine ⟨A, c, hv, h1, h2, fun hn => ?_⟩
  obtain ⟨b, off, hA, hb, hc⟩ := h3 hn
  exact ⟨b, off, hA, hS b hb, fun j hj => (World.cell?_of_block (hk b hb (lt_of_cell (hc 0 hn)))).trans (hc j hj)⟩
theorem EndsR.keep {xs} (h : EndsR w S v xs) (hS : ∀ b, S b → S' b) (hk : ∀ b, S b → b < w.heap.size → w'.heap[b]? = w.heap[b]?) : EndsR w' S' v xs := by
  obtain ⟨A, c, hv, h1, h2, h3⟩ := h
  refine ⟨A, c, hv, h1, h2, fun hn => ?_⟩
  obtain ⟨b, off, hA, hb, hc⟩ := h3 hn
  exact ⟨b, off, hA, hS b hb, fun j hj => ⟨(World.cell?_of_block (hk b hb (lt_of_cell (hc 0 hn).1))).trans (hc j hj).1, (World.cell?_of_block (hk b hb (lt_of_cell (hc 0 hn).1))).trans (hc j hj).2⟩⟩
theorem EndSSR.keep {xs} (h : EndSSR w S v xs) (hS : ∀ b, S b → S' b) (hk : ∀ b, S b → b < w.heap.size → w'.heap[b]? = w.heap[b]?) : EndSSR w' S' v xs := by
  obtain ⟨A, c, hv, h1, h2, h3⟩ := h
  refine ⟨A, c, hv, h1, h2, fun hn => ?_⟩
  obtain ⟨b, off, hA, hb, hc⟩ := h3 hn
  refine ⟨b, off, hA, hS b hb, fun j hj => ?_⟩
  obtain ⟨u, hu, hr⟩ := hc j hj
  exact ⟨u, (World.cell?_of_block (hk b hb (lt_of_cell hu))).trans hu, hr.keep hS hk⟩
theorem NetR.keep {N} (h : NetR w S v N) (hS : ∀ b, S b → S' b) (hk : ∀ b, S b → b < w.heap.size → w'.heap[b]? = w.heap[b]?) : NetR w' S' v N := by
  obtain ⟨ve, vi, vn, hv, h1, h2, h3⟩ := h
  exact ⟨ve, vi, vn, hv, h1.keep hS hk, h2.keep hS hk, h3.keep hS hk⟩

theorem IntsR.below {xs} (h : IntsR w S v xs) (hb : Below w.heap.size w w') : IntsR w' S v xs := h.keep (fun _ h => h) fun b _ hl => hb.block b hl
theorem EndsR.below {xs} (h : EndsR w S v xs) (hb : Below w.heap.size w w') : EndsR w' S v xs := h.keep (fun _ h => h) fun b _ hl => hb.block b hl
theorem EndSSR.below {xs} (h : EndSSR w S v xs) (hb : Below w.heap.size w w') : EndSSR w' S v xs := h.keep (fun _ h => h) fun b _ hl => hb.block b hl
theorem NetR.below {N} (h : NetR w S v N) (hb : Below w.heap.size w w') : NetR w' S v N := h.keep (fun _ h => h) fun b _ hl => hb.block b hl

theorem IntsR.weak {xs} (h : IntsR w S v xs) (hS : ∀ b, S b → S' b) : IntsR w S' v xs := h.keep hS fun _ _ _ => rfl
theorem EndsR.weak {xs} (h : EndsR w S v xs) (hS : ∀ b, S b → S' b) : EndsR w S' v xs := h.keep hS fun _ _ _ => rfl
theorem EndSSR.weak {xs} (h : EndSSR w S v xs) (hS : ∀ b, S b → S' b) : EndSSR w S' v xs := h.keep hS fun _ _ _ => rfl
theorem NetR.weak {N} (h : NetR w S v N) (hS : ∀ b, S b → S' b) : NetR w S' v N := h.keep hS fun _ _ _ => rfl

theorem IntsR.nil : IntsR w S (.slice none 0 0) [] := ⟨none, 0, rfl, Nat.le_refl _, by simp [maxLen], fun h => absurd h (Nat.lt_irrefl _)⟩

theorem IntsR.bound {xs} (h : IntsR w S v xs) : xs.length ≤ 9223372036854775807 := by
  obtain ⟨A, c, hv, h1, h2, h3⟩ := h
  unfold maxLen at h2; omega
end

/-- below the old size nothing has turned, in two steps -/
theorem Below.then_ {w w1 w2 : World} (h : Below w.heap.size w w1) (k : Below w1.heap.size w1 w2) : Below w.heap.size w w2 := h.trans (k.mono h.size)
theorem Below.thenB {B : Nat} {w w1 w2 : World} (h : Below B w w1) (k : Below w1.heap.size w1 w2) (hB : B ≤ w1.heap.size) : Below B w w2 := h.trans (k.mono hB)

theorem below_drewN {B : Nat} {a w : World} (h : Below B a w) (n : Nat) : Below B a (w.drewN n) := ⟨h.os, h.tape, h.output, h.size, h.block⟩

/-- all old cells and marks read as before: rules for the walk -/
theorem bcell {W w1 : World} (hb : Below W.heap.size W w1) : (∀ b o, b < W.heap.size → w1.cell? ⟨b, o, none⟩ = W.cell? ⟨b, o, none⟩) ∧ (∀ b o, b < W.heap.size → w1.frozen? ⟨b, o, none⟩ = W.frozen? ⟨b, o, none⟩) :=
  ⟨fun b o h => hb.cell (p := ⟨b, o, none⟩) h, fun b o h => hb.frozen (p := ⟨b, o, none⟩) h⟩

/-- what a boxed argument holds in every later world -/
theorem box1 {w w' : World} {cs : Array Value} {t : TypeId} (hb : Below (w.alloc (.cells cs t)).heap.size (w.alloc (.cells cs t)) w') :
    ∀ i, w'.cell? ⟨w.heap.size, i, none⟩ = cs[i]? := fun i => by
  rw [hb.cell (by simp)]
  exact cell_of_row _ _ _ cs t (0, 0) (heap_alloc_new w _)
theorem box2 {w w' : World} {cs ds : Array Value} {t t' : TypeId} (hb : Below ((w.alloc (.cells cs t)).alloc (.cells ds t')).heap.size ((w.alloc (.cells cs t)).alloc (.cells ds t')) w') :
    (∀ i, w'.cell? ⟨w.heap.size, i, none⟩ = cs[i]?) ∧ (∀ i, w'.cell? ⟨w.heap.size + 1, i, none⟩ = ds[i]?) := by
  constructor
  · intro i
    rw [hb.cell (by simp; omega)]
    exact cell_of_row _ _ _ cs t (0, 0) ((Below.heap_alloc _ _ _ (by simp)).trans (heap_alloc_new w _))
  · intro i
    rw [hb.cell (by simp)]
    have := heap_alloc_new (w.alloc (.cells cs t)) (.cells ds t')
    simp only [World.size_alloc] at this
    exact cell_of_row _ _ _ ds t' (0, 0) this

/-- block g is known whole -/
def Blk (w : World) (g : Nat) (t : TypeId) (cs : Array Value) : Prop := w.heap[g]? = some (.cells cs t (0, 0))
section
variable {w w' : World} {g : Nat} {t : TypeId} {cs : Array Value}
theorem Blk.lt (h : Blk w g t cs) : g < w.heap.size := by
  rcases Nat.lt_or_ge g w.heap.size with hlt | hge
  · exact hlt
  · unfold Blk at h; rw [Array.getElem?_eq_none hge] at h; cases h
theorem Blk.cell (h : Blk w g t cs) : ∀ i, w.cell? ⟨g, i, none⟩ = cs[i]? := fun i => cell_of_row w g i cs t (0, 0) h
theorem Blk.free (h : Blk w g t cs) : ∀ i, w.frozen? ⟨g, i, none⟩ = false := fun i => by
  unfold Blk at h
  simp [World.frozen?, h]
theorem Blk.new (w : World) (t : TypeId) (cs : Array Value) : Blk (w.alloc (.cells cs t)) w.heap.size t cs := heap_alloc_new w _
theorem Blk.alloc (h : Blk w g t cs) (o : Obj) : Blk (w.alloc o) g t cs := (Below.heap_alloc w o g h.lt).trans h
theorem Blk.put (h : Blk w g t cs) (i : Nat) (u : Value) : Blk (w.setCell ⟨g, i, none⟩ u) g t (cs.setIfInBounds i u) := by
  unfold Blk at h ⊢
  simp [World.setCell, Array.getElem?_modify, h]
theorem Blk.far (h : Blk w g t cs) {p : Addr} (hp : g ≠ p.block) (u : Value) : Blk (w.setCell p u) g t cs := (Below.heap_setCell w p u g hp).trans h
theorem Blk.below (h : Blk w g t cs) (hb : Below w.heap.size w w') : Blk w' g t cs := (hb.block g h.lt).trans h
end

/-- three blocks, then a call -/
theorem box3 {w w' : World} {a b c : Array Value} {t t' t'' : TypeId} (hb : Below (((w.alloc (.cells a t)).alloc (.cells b t')).alloc (.cells c t'')).heap.size (((w.alloc (.cells a t)).alloc (.cells b t')).alloc (.cells c t'')) w') :
    Blk w' w.heap.size t a ∧ Blk w' (w.heap.size + 1) t' b ∧ Blk w' (w.heap.size + 1 + 1) t'' c := by
  refine ⟨Blk.below (((Blk.new _ _ _).alloc _).alloc _) hb, Blk.below (Blk.alloc ?_ _) hb, Blk.below ?_ hb⟩
  · have := Blk.new (w.alloc (.cells a t)) t' b
    simpa using this
  · have := Blk.new ((w.alloc (.cells a t)).alloc (.cells b t')) t'' c
    simpa using this

/-- numbers as cells -/
def ic (xs : List Int) : List Value := xs.map (Value.int .i64)
theorem ic_length (xs : List Int) : (ic xs).length = xs.length := by simp [ic]
theorem ic_get {xs : List Int} {j : Nat} (h : j < xs.length) : (ic xs)[j]? = some (.int .i64 (gi xs j)) := by simp [ic, gi, h]

/-- a slice of ints that the call owns, in a block from B on -/
def OwnI (w : World) (B : Nat) (v : Value) (xs : List Int) : Prop := w.ownsRow B 3 1 v xs.length (ic xs)

theorem OwnI.ints {w : World} {B : Nat} {v : Value} {xs : List Int} (h : OwnI w B v xs) : IntsR w (fun b => B ≤ b) v xs := by
  obtain ⟨h1, h2⟩ := h
  rcases h2 with ⟨rfl, hn⟩ | ⟨g, cap, cur, rfl, hB, hg, hnc, hm, hs, ht⟩
  · exact ⟨none, 0, by rw [hn], by omega, by simp [maxLen], fun h => absurd h (by omega)⟩
  · refine ⟨_, cap, rfl, hnc, hm, fun hn => ⟨g, 0, rfl, hB, fun j hj => ?_⟩⟩
    rw [Nat.zero_add, cell_of_row w g j cur _ (0, 0) hg]
    have := ic_get hj
    rw [← ht, List.getElem?_take] at this
    split at this
    · simpa using this
    · cases this
theorem OwnI.shape {w : World} {B : Nat} {v : Value} {xs : List Int} (h : OwnI w B v xs) : ∃ A c, v = .slice A xs.length c := by
  rcases h.2 with ⟨rfl, hn⟩ | ⟨g, cap, cur, rfl, _⟩
  · exact ⟨none, 0, by rw [hn]⟩
  · exact ⟨_, _, rfl⟩
theorem OwnI.below {w w' : World} {B : Nat} {v : Value} {xs : List Int} (h : OwnI w B v xs) (hb : Below w.heap.size w w') : OwnI w' B v xs := by
  obtain ⟨h1, h2⟩ := h
  refine ⟨h1, ?_⟩
  rcases h2 with h2 | ⟨g, cap, cur, hv, hB, hg, h⟩
  · exact .inl h2
  · exact .inr ⟨g, cap, cur, hv, hB, (hb.block g (Array.getElem?_eq_some_iff.1 hg).1).trans hg, h⟩
theorem OwnI.keepB {w w' : World} {B : Nat} {v : Value} {xs : List Int} (h : OwnI w B v xs) (hk : ∀ b, B ≤ b → b < w.heap.size → w'.heap[b]? = w.heap[b]?) : OwnI w' B v xs := by
  obtain ⟨h1, h2⟩ := h
  refine ⟨h1, ?_⟩
  rcases h2 with h2 | ⟨g, cap, cur, hv, hB, hg, h⟩
  · exact .inl h2
  · exact .inr ⟨g, cap, cur, hv, hB, (hk g hB (Array.getElem?_eq_some_iff.1 hg).1).trans hg, h⟩
theorem OwnI.far {w : World} {B : Nat} {v : Value} {xs : List Int} (h : OwnI w B v xs) {p : Addr} (hp : p.block < B) (u : Value) : OwnI (w.setCell p u) B v xs :=
  h.keepB fun b hb _ => Below.heap_setCell w p u b (by omega)
theorem OwnI.mono {w : World} {B B' : Nat} {v : Value} {xs : List Int} (h : OwnI w B v xs) (hB : B' ≤ B) : OwnI w B' v xs := by
  obtain ⟨h1, h2⟩ := h
  refine ⟨h1, ?_⟩
  rcases h2 with h2 | ⟨g, cap, cur, hv, hb, h⟩
  · exact .inl h2
  · exact .inr ⟨g, cap, cur, hv, by omega, h⟩
theorem OwnI.of_rowIs {w : World} {B g n : Nat} {xs : List Int} (h : w.rowIs g 3 n (fun i => .int .i64 (gi xs i))) (hl : xs.length = n) (hB : B ≤ g) (hm : n ≤ maxLen) : OwnI w B (.slice (some ⟨g, 0, none⟩) n n) xs := by
  obtain ⟨c, hc, hs, hf⟩ := h
  subst hl
  refine ⟨by simp [ic], .inr ⟨g, xs.length, c, rfl, hB, hc, Nat.le_refl _, hm, by omega, ?_⟩⟩
  apply List.ext_getElem?
  intro i
  by_cases hi : i < xs.length
  · rw [List.getElem?_take_of_lt (by omega), ic_get hi]
    simpa using hf i hi
  · rw [List.getElem?_eq_none (by simp; omega), List.getElem?_eq_none (by simp [ic]; omega)]

/-- what a function that makes a slice of ints gives -/
def RetI (w : World) (xs : List Int) (e : Ending) (w' : World) : Prop := ∃ v, e = .returned v ∧ OwnI w' w.heap.size v xs ∧ Below w.heap.size w w'
/-- a function that reads, computes, and may make memory of its own -/
def RetV (w : World) (v : Value) (e : Ending) (w' : World) : Prop := e = .returned v ∧ Below w.heap.size w w'
/-- a function that only reads, in an open order -/
def RetD (w : World) (v : Value) (e : Ending) (w' : World) : Prop := e = .returned v ∧ ∃ n, w' = w.drewN n
theorem RetD.v {w w' : World} {v : Value} {e : Ending} (h : RetD w v e w') : RetV w v e w' := by
  obtain ⟨h1, n, rfl⟩ := h
  exact ⟨h1, below_drewN (Below.refl _ _) n⟩
/-- a function that leaves the world alone -/
def RetQ (w : World) (v : Value) (e : Ending) (w' : World) : Prop := e = .returned v ∧ w = w'

/-- quiet contracts inside a region that draws -/
theorem quietQ {P : Program} {f : FuncId} {args : Array Value} {w : World} {n : Nat} {v : Value} (h : Calls P f args (w.drewN n) (RetQ (w.drewN n) v)) :
    Calls P f args (w.drewN n) fun e w'' => e = .returned v ∧ ∃ m, w'' = w.drewN m := h.mono fun _ _ ⟨he, hm⟩ => ⟨he, n, hm.symm⟩
theorem quietD {P : Program} {f : FuncId} {args : Array Value} {w : World} {n : Nat} {v : Value} (h : Calls P f args (w.drewN n) (RetD (w.drewN n) v)) :
    Calls P f args (w.drewN n) fun e w'' => e = .returned v ∧ ∃ m, w'' = w.drewN m := h.mono fun _ _ ⟨he, m, hm⟩ => ⟨he, n + m, by rw [hm, World.drewN_drewN]⟩
theorem quietQa {P : Program} {f : FuncId} {args : Array Value} {w : World} {a n : Nat} {v : Value} (h : Calls P f args (w.drewN (a + n)) (RetQ (w.drewN (a + n)) v)) :
    Calls P f args (w.drewN (a + n)) fun e w'' => e = .returned v ∧ ∃ m, w'' = w.drewN (a + m) := h.mono fun _ _ ⟨he, hm⟩ => ⟨he, n, hm.symm⟩
theorem quietDa {P : Program} {f : FuncId} {args : Array Value} {w : World} {a n : Nat} {v : Value} (h : Calls P f args (w.drewN (a + n)) (RetD (w.drewN (a + n)) v)) :
    Calls P f args (w.drewN (a + n)) fun e w'' => e = .returned v ∧ ∃ m, w'' = w.drewN (a + m) := h.mono fun _ _ ⟨he, m, hm⟩ => ⟨he, n + m, by rw [hm, World.drewN_drewN, Nat.add_assoc]⟩

/-- a later world: below the old size as it was -/
structure BW (w : World) where
  wd : World
  h : Below w.heap.size w wd
instance BW.some {w : World} : Nonempty (BW w) := ⟨⟨w, Below.refl _ _⟩⟩
theorem BW.cell {w : World} (x : BW w) (b o : Nat) (h : b < w.heap.size) : x.wd.cell? ⟨b, o, none⟩ = w.cell? ⟨b, o, none⟩ := x.h.cell (p := ⟨b, o, none⟩) h
theorem BW.frozen {w : World} (x : BW w) (b o : Nat) (h : b < w.heap.size) : x.wd.frozen? ⟨b, o, none⟩ = w.frozen? ⟨b, o, none⟩ := x.h.frozen (p := ⟨b, o, none⟩) h
/-- a region that draws its order, whose operations read and whose callees make memory at the most: one walk, in the order of the text -/
theorem wp_region_below {P : Program} {id : Nat} {Q : Exit → Act → World → Prop} {a : Act} {w : World} {l : List Oper} (hm : P.follows .mixedOrders = true) (hB : Region.lexB .any l.toArray = true)
    (h : wpQuiet P l.toArray (fun w' => ∃ x : BW w, w' = x.wd) (fun a' => ∀ w', (∃ x : BW w, w' = x.wd) → Q .normal a' w') l a) : (Code.region id l.toArray true).wp P Q a w :=
  wp_region_quiet (C := fun w' => ∃ x : BW w, w' = x.wd) hm hB ⟨⟨_, (Below.refl _ w).drew⟩, rfl⟩ (by simpa using h)
theorem quietB {P : Program} {f : FuncId} {args : Array Value} {w : World} {x : BW w} {v : Value} (h : Calls P f args x.wd (RetV x.wd v)) :
    Calls P f args x.wd fun e w'' => e = .returned v ∧ ∃ y : BW w, w'' = y.wd := h.mono fun _ w'' ⟨he, hb⟩ => ⟨he, ⟨w'', Below.then_ x.h hb⟩, rfl⟩
theorem RetQ.v {w w' : World} {v : Value} {e : Ending} (h : RetQ w v e w') : RetV w v e w' := by
  obtain ⟨h1, rfl⟩ := h
  exact ⟨h1, Below.refl _ _⟩

end Go.Proofs.Ytclkboemgneojaa
