/- Parts of the proof, joined: Mem, Bx, Fun, Sym, Vt, Vt2, Vt3. -/
import Derived.WalkKit
import Derived.WalkSpells
import Derived.WalkLawsBesides
import Derived.Outline
import Derived.Lib.Hide
import Derived.Deep.OwnRows
import Derived.OwnWalk
import Derived.Maps.AppendAt
import Derived.Deep.AppendLies
import Derived.Deep.QuietTactic
import Derived.BigQuiet
import Derived.Deep.LoopGhost
namespace Go.Proofs.YtjoimponfeofkaaGreat
open Go.RowKit

/-- the number at a place of a list -/
def gi (xs : List Int) (j : Nat) : Int := xs.getD j 0
/-- the pair at a place -/
def gp (es : List (Int × Int)) (j : Nat) : Int × Int := es.getD j (0, 0)
/-- the list at a place -/
def gl (ess : List (List (Int × Int))) (j : Nat) : List (Int × Int) := ess.getD j []

theorem gi_lt {xs : List Int} {j : Nat} (h : j < xs.length) : gi xs j = xs[j] := by simp [gi, h]
theorem gp_lt {xs : List (Int × Int)} {j : Nat} (h : j < xs.length) : gp xs j = xs[j] := by simp [gp, h]
theorem gl_lt {xs : List (List (Int × Int))} {j : Nat} (h : j < xs.length) : gl xs j = xs[j] := by simp [gl, h]

theorem lt_of_cell {w : World} {b o : Nat} {v : Value} (h : w.cell? ⟨b, o, none⟩ = some v) : b < w.heap.size := World.block_lt_of_cell? w _ h

/-- a slice of ints; its block meets S -/
def IntsR (w : World) (S : Nat → Prop) (v : Value) (xs : List Int) : Prop :=
  ∃ A c, v = .slice A xs.length c ∧ xs.length ≤ c ∧ c ≤ maxLen ∧
    (0 < xs.length → ∃ b off, A = some ⟨b, off, none⟩ ∧ S b ∧ ∀ j, j < xs.length → w.cell? ⟨b, off + j, none⟩ = some (.int .i64 (gi xs j)))

/-- a slice of pairs of ints -/
def EndsR (w : World) (S : Nat → Prop) (v : Value) (es : List (Int × Int)) : Prop :=
  ∃ A c, v = .slice A es.length c ∧ es.length ≤ c ∧ c ≤ maxLen ∧
    (0 < es.length → ∃ b off, A = some ⟨b, off, none⟩ ∧ S b ∧ ∀ j, j < es.length →
      w.cell? ⟨b, off + j * 2, none⟩ = some (.int .i64 (gp es j).1) ∧ w.cell? ⟨b, off + j * 2 + 1, none⟩ = some (.int .i64 (gp es j).2))

/-- a slice of slices of pairs -/
def EndSSR (w : World) (S : Nat → Prop) (v : Value) (ess : List (List (Int × Int))) : Prop :=
  ∃ A c, v = .slice A ess.length c ∧ ess.length ≤ c ∧ c ≤ maxLen ∧
    (0 < ess.length → ∃ b off, A = some ⟨b, off, none⟩ ∧ S b ∧ ∀ j, j < ess.length →
      ∃ u, w.cell? ⟨b, off + j, none⟩ = some u ∧ EndsR w S u (gl ess j))

structure Net where
  ends : List (List (Int × Int))
  ids : List Int
  inputs : List Int

def NetR (w : World) (S : Nat → Prop) (v : Value) (N : Net) : Prop :=
  ∃ ve vi vn, v = .agg #[ve, vi, vn] ∧ EndSSR w S ve N.ends ∧ IntsR w S vi N.ids ∧ IntsR w S vn N.inputs

section
variable {w w' : World} {S S' : Nat → Prop} {v : Value}

theorem IntsR.keep {xs} (h : IntsR w S v xs) (hS : ∀ b, S b → S' b) (hk : ∀ b, S b → b < w.heap.size → w'.heap[b]? = w.heap[b]?) : IntsR w' S' v xs := by
  obtain ⟨A, c, hv, h1, h2, h3⟩ := h
  refine ⟨A, c, hv, h1, h2, fun hn => ?_⟩
  obtain ⟨b, off, hA, hb, hc⟩ := h3 hn
  exact ⟨b, off, hA, hS b hb, fun j hj => (World.cell?_of_block (hk b hb (lt_of_cell (hc 0 hn)))).trans (hc j hj)⟩
theorem EndsR.keep {xs} (h : EndsR w S v xs) (hS : ∀ b, S b → S' b) (hk : ∀ b, S b → b < w.heap.size → w'.heap[b]? = w.heap[b]?) : EndsR w' S' v xs := by
  obtain ⟨A, c, hv, h1, h2, h3⟩ := h
  refine ⟨A, c, hv, h1, h2, fun hn => ?_⟩
  obtain ⟨b, off, hA, hb, hc⟩ := h3 hn
  exact ⟨b, off, hA, hS b hb, fun j hj => ⟨(World.cell?_of_block (hk b hb (lt_of_cell (hc 0 hn).1))).trans (hc j hj).1, (World.cell?_of_block (hk b hb (lt_of_cell (hc 0 hn).1))).trans (hc j hj).2⟩⟩
theorem EndSSR.keep {xs} (h : EndSSR w S v xs) (hS : ∀ b, S b → S' b) (hk : ∀ b, S b → b < w.heap.size → w'.heap[b]? = w.heap[b]?) : EndSSR w' S' v xs := by
  obtain ⟨A, c, hv, h1, h2, h3⟩ := h
  refine ⟨A, c, hv, h1, h2, fun hn => ?_⟩
  obtain ⟨b, off, hA, hb, hc⟩ := h3 hn
  refine ⟨b, off, hA, hS b hb, fun j hj => ?_⟩
  obtain ⟨u, hu, hr⟩ := hc j hj
  exact ⟨u, (World.cell?_of_block (hk b hb (lt_of_cell hu))).trans hu, hr.keep hS hk⟩
theorem NetR.keep {N} (h : NetR w S v N) (hS : ∀ b, S b → S' b) (hk : ∀ b, S b → b < w.heap.size → w'.heap[b]? = w.heap[b]?) : NetR w' S' v N := by
  obtain ⟨ve, vi, vn, hv, h1, h2, h3⟩ := h
  exact ⟨ve, vi, vn, hv, h1.keep hS hk, h2.keep hS hk, h3.keep hS hk⟩

theorem IntsR.below {xs} (h : IntsR w S v xs) (hb : Below w.heap.size w w') : IntsR w' S v xs := h.keep (fun _ h => h) fun b _ hl => hb.block b hl
theorem EndsR.below {xs} (h : EndsR w S v xs) (hb : Below w.heap.size w w') : EndsR w' S v xs := h.keep (fun _ h => h) fun b _ hl => hb.block b hl
theorem EndSSR.below {xs} (h : EndSSR w S v xs) (hb : Below w.heap.size w w') : EndSSR w' S v xs := h.keep (fun _ h => h) fun b _ hl => hb.block b hl
theorem NetR.below {N} (h : NetR w S v N) (hb : Below w.heap.size w w') : NetR w' S v N := h.keep (fun _ h => h) fun b _ hl => hb.block b hl

theorem IntsR.weak {xs} (h : IntsR w S v xs) (hS : ∀ b, S b → S' b) : IntsR w S' v xs := h.keep hS fun _ _ _ => rfl
theorem EndsR.weak {xs} (h : EndsR w S v xs) (hS : ∀ b, S b → S' b) : EndsR w S' v xs := h.keep hS fun _ _ _ => rfl
theorem EndSSR.weak {xs} (h : EndSSR w S v xs) (hS : ∀ b, S b → S' b) : EndSSR w S' v xs := h.keep hS fun _ _ _ => rfl
theorem NetR.weak {N} (h : NetR w S v N) (hS : ∀ b, S b → S' b) : NetR w S' v N := h.keep hS fun _ _ _ => rfl

theorem IntsR.nil : IntsR w S (.slice none 0 0) [] := ⟨none, 0, rfl, Nat.le_refl _, by simp [maxLen], fun h => absurd h (Nat.lt_irrefl _)⟩

theorem IntsR.bound {xs} (h : IntsR w S v xs) : xs.length ≤ 9223372036854775807 := by
  obtain ⟨A, c, hv, h1, h2, h3⟩ := h
  unfold maxLen at h2; omega
end

/-- below the old size nothing has turned, in two steps -/
theorem Below.then_ {w w1 w2 : World} (h : Below w.heap.size w w1) (k : Below w1.heap.size w1 w2) : Below w.heap.size w w2 := h.trans (k.mono h.size)
theorem Below.thenB {B : Nat} {w w1 w2 : World} (h : Below B w w1) (k : Below w1.heap.size w1 w2) (hB : B ≤ w1.heap.size) : Below B w w2 := h.trans (k.mono hB)

theorem below_drewN {B : Nat} {a w : World} (h : Below B a w) (n : Nat) : Below B a (w.drewN n) := ⟨h.os, h.tape, h.output, h.size, h.block⟩

/-- all old cells and marks read as before: rules for the walk -/
theorem bcell {W w1 : World} (hb : Below W.heap.size W w1) : (∀ b o, b < W.heap.size → w1.cell? ⟨b, o, none⟩ = W.cell? ⟨b, o, none⟩) ∧ (∀ b o, b < W.heap.size → w1.frozen? ⟨b, o, none⟩ = W.frozen? ⟨b, o, none⟩) :=
  ⟨fun b o h => hb.cell (p := ⟨b, o, none⟩) h, fun b o h => hb.frozen (p := ⟨b, o, none⟩) h⟩

/-- what a boxed argument holds in every later world -/
theorem box1 {w w' : World} {cs : Array Value} {t : TypeId} (hb : Below (w.alloc (.cells cs t)).heap.size (w.alloc (.cells cs t)) w') :
    ∀ i, w'.cell? ⟨w.heap.size, i, none⟩ = cs[i]? := fun i => by
  rw [hb.cell (by simp)]
  exact cell_of_row _ _ _ cs t (0, 0) (heap_alloc_new w _)
theorem box2 {w w' : World} {cs ds : Array Value} {t t' : TypeId} (hb : Below ((w.alloc (.cells cs t)).alloc (.cells ds t')).heap.size ((w.alloc (.cells cs t)).alloc (.cells ds t')) w') :
    (∀ i, w'.cell? ⟨w.heap.size, i, none⟩ = cs[i]?) ∧ (∀ i, w'.cell? ⟨w.heap.size + 1, i, none⟩ = ds[i]?) := by
  constructor
  · intro i
    rw [hb.cell (by simp; omega)]
    exact cell_of_row _ _ _ cs t (0, 0) ((Below.heap_alloc _ _ _ (by simp)).trans (heap_alloc_new w _))
  · intro i
    rw [hb.cell (by simp)]
    have := heap_alloc_new (w.alloc (.cells cs t)) (.cells ds t')
    simp only [World.size_alloc] at this
    exact cell_of_row _ _ _ ds t' (0, 0) this

/-- block g is known whole -/
def Blk (w : World) (g : Nat) (t : TypeId) (cs : Array Value) : Prop := w.heap[g]? = some (.cells cs t (0, 0))
section
variable {w w' : World} {g : Nat} {t : TypeId} {cs : Array Value}
theorem Blk.lt (h : Blk w g t cs) : g < w.heap.size := by
  rcases Nat.lt_or_ge g w.heap.size with hlt | hge
  · exact hlt
  · unfold Blk at h; rw [Array.getElem?_eq_none hge] at h; cases h
theorem Blk.cell (h : Blk w g t cs) : ∀ i, w.cell? ⟨g, i, none⟩ = cs[i]? := fun i => cell_of_row w g i cs t (0, 0) h
theorem Blk.free (h : Blk w g t cs) : ∀ i, w.frozen? ⟨g, i, none⟩ = false := fun i => by
  unfold Blk at h
  simp [World.frozen?, h]
theorem Blk.new (w : World) (t : TypeId) (cs : Array Value) : Blk (w.alloc (.cells cs t)) w.heap.size t cs := heap_alloc_new w _
theorem Blk.alloc (h : Blk w g t cs) (o : Obj) : Blk (w.alloc o) g t cs := (Below.heap_alloc w o g h.lt).trans h
theorem Blk.put (h : Blk w g t cs) (i : Nat) (u : Value) : Blk (w.setCell ⟨g, i, none⟩ u) g t (cs.setIfInBounds i u) := by
  unfold Blk at h ⊢
  simp [World.setCell, Array.getElem?_modify, h]
theorem Blk.far (h : Blk w g t cs) {p : Addr} (hp : g ≠ p.block) (u : Value) : Blk (w.setCell p u) g t cs := (Below.heap_setCell w p u g hp).trans h
theorem Blk.below (h : Blk w g t cs) (hb : Below w.heap.size w w') : Blk w' g t cs := (hb.block g h.lt).trans h
end

/-- three blocks, then a call -/
theorem box3 {w w' : World} {a b c : Array Value} {t t' t'' : TypeId} (hb : Below (((w.alloc (.cells a t)).alloc (.cells b t')).alloc (.cells c t'')).heap.size (((w.alloc (.cells a t)).alloc (.cells b t')).alloc (.cells c t'')) w') :
    Blk w' w.heap.size t a ∧ Blk w' (w.heap.size + 1) t' b ∧ Blk w' (w.heap.size + 1 + 1) t'' c := by
  refine ⟨Blk.below (((Blk.new _ _ _).alloc _).alloc _) hb, Blk.below (Blk.alloc ?_ _) hb, Blk.below ?_ hb⟩
  · have := Blk.new (w.alloc (.cells a t)) t' b
    simpa using this
  · have := Blk.new ((w.alloc (.cells a t)).alloc (.cells b t')) t'' c
    simpa using this

/-- numbers as cells -/
def ic (xs : List Int) : List Value := xs.map (Value.int .i64)
theorem ic_length (xs : List Int) : (ic xs).length = xs.length := by simp [ic]
theorem ic_get {xs : List Int} {j : Nat} (h : j < xs.length) : (ic xs)[j]? = some (.int .i64 (gi xs j)) := by simp [ic, gi, h]

/-- a slice of ints that the call owns, in a block from B on -/
def OwnI (w : World) (B : Nat) (v : Value) (xs : List Int) : Prop := w.ownsRow B 3 1 v xs.length (ic xs)

theorem OwnI.ints {w : World} {B : Nat} {v : Value} {xs : List Int} (h : OwnI w B v xs) : IntsR w (fun b => B ≤ b) v xs := by
  obtain ⟨h1, h2⟩ := h
  rcases h2 with ⟨rfl, hn⟩ | ⟨g, cap, cur, rfl, hB, hg, hnc, hm, hs, ht⟩
  · exact ⟨none, 0, by rw [hn], by omega, by simp [maxLen], fun h => absurd h (by omega)⟩
  · refine ⟨_, cap, rfl, hnc, hm, fun hn => ⟨g, 0, rfl, hB, fun j hj => ?_⟩⟩
    rw [Nat.zero_add, cell_of_row w g j cur _ (0, 0) hg]
    have := ic_get hj
    rw [← ht, List.getElem?_take] at this
    split at this
    · simpa using this
    · cases this
theorem OwnI.shape {w : World} {B : Nat} {v : Value} {xs : List Int} (h : OwnI w B v xs) : ∃ A c, v = .slice A xs.length c := by
  rcases h.2 with ⟨rfl, hn⟩ | ⟨g, cap, cur, rfl, _⟩
  · exact ⟨none, 0, by rw [hn]⟩
  · exact ⟨_, _, rfl⟩
theorem OwnI.below {w w' : World} {B : Nat} {v : Value} {xs : List Int} (h : OwnI w B v xs) (hb : Below w.heap.size w w') : OwnI w' B v xs := by
  obtain ⟨h1, h2⟩ := h
  refine ⟨h1, ?_⟩
  rcases h2 with h2 | ⟨g, cap, cur, hv, hB, hg, h⟩
  · exact .inl h2
  · exact .inr ⟨g, cap, cur, hv, hB, (hb.block g (Array.getElem?_eq_some_iff.1 hg).1).trans hg, h⟩
theorem OwnI.keepB {w w' : World} {B : Nat} {v : Value} {xs : List Int} (h : OwnI w B v xs) (hk : ∀ b, B ≤ b → b < w.heap.size → w'.heap[b]? = w.heap[b]?) : OwnI w' B v xs := by
  obtain ⟨h1, h2⟩ := h
  refine ⟨h1, ?_⟩
  rcases h2 with h2 | ⟨g, cap, cur, hv, hB, hg, h⟩
  · exact .inl h2
  · exact .inr ⟨g, cap, cur, hv, hB, (hk g hB (Array.getElem?_eq_some_iff.1 hg).1).trans hg, h⟩
theorem OwnI.far {w : World} {B : Nat} {v : Value} {xs : List Int} (h : OwnI w B v xs) {p : Addr} (hp : p.block < B) (u : Value) : OwnI (w.setCell p u) B v xs :=
  h.keepB fun b hb _ => Below.heap_setCell w p u b (by omega)
theorem OwnI.mono {w : World} {B B' : Nat} {v : Value} {xs : List Int} (h : OwnI w B v xs) (hB : B' ≤ B) : OwnI w B' v xs := by
  obtain ⟨h1, h2⟩ := h
  refine ⟨h1, ?_⟩
  rcases h2 with h2 | ⟨g, cap, cur, hv, hb, h⟩
  · exact .inl h2
  · exact .inr ⟨g, cap, cur, hv, by omega, h⟩
theorem OwnI.of_rowIs {w : World} {B g n : Nat} {xs : List Int} (h : w.rowIs g 3 n (fun i => .int .i64 (gi xs i))) (hl : xs.length = n) (hB : B ≤ g) (hm : n ≤ maxLen) : OwnI w B (.slice (some ⟨g, 0, none⟩) n n) xs := by
  obtain ⟨c, hc, hs, hf⟩ := h
  subst hl
  refine ⟨by simp [ic], .inr ⟨g, xs.length, c, rfl, hB, hc, Nat.le_refl _, hm, by omega, ?_⟩⟩
  apply List.ext_getElem?
  intro i
  by_cases hi : i < xs.length
  · rw [List.getElem?_take_of_lt (by omega), ic_get hi]
    simpa using hf i hi
  · rw [List.getElem?_eq_none (by simp; omega), List.getElem?_eq_none (by simp [ic]; omega)]

/-- what a function that makes a slice of ints gives -/
def RetI (w : World) (xs : List Int) (e : Ending) (w' : World) : Prop := ∃ v, e = .returned v ∧ OwnI w' w.heap.size v xs ∧ Below w.heap.size w w'
/-- a function that reads, computes, and may make memory of its own -/
def RetV (w : World) (v : Value) (e : Ending) (w' : World) : Prop := e = .returned v ∧ Below w.heap.size w w'
/-- a function that only reads, in an open order -/
def RetD (w : World) (v : Value) (e : Ending) (w' : World) : Prop := e = .returned v ∧ ∃ n, w' = w.drewN n
theorem RetD.v {w w' : World} {v : Value} {e : Ending} (h : RetD w v e w') : RetV w v e w' := by
  obtain ⟨h1, n, rfl⟩ := h
  exact ⟨h1, below_drewN (Below.refl _ _) n⟩
/-- a function that leaves the world alone -/
def RetQ (w : World) (v : Value) (e : Ending) (w' : World) : Prop := e = .returned v ∧ w = w'

/-- quiet contracts inside a region that draws -/
theorem quietQ {P : Program} {f : FuncId} {args : Array Value} {w : World} {n : Nat} {v : Value} (h : Calls P f args (w.drewN n) (RetQ (w.drewN n) v)) :
    Calls P f args (w.drewN n) fun e w'' => e = .returned v ∧ ∃ m, w'' = w.drewN m := h.mono fun _ _ ⟨he, hm⟩ => ⟨he, n, hm.symm⟩
theorem quietD {P : Program} {f : FuncId} {args : Array Value} {w : World} {n : Nat} {v : Value} (h : Calls P f args (w.drewN n) (RetD (w.drewN n) v)) :
    Calls P f args (w.drewN n) fun e w'' => e = .returned v ∧ ∃ m, w'' = w.drewN m := h.mono fun _ _ ⟨he, m, hm⟩ => ⟨he, n + m, by rw [hm, World.drewN_drewN]⟩
theorem quietQa {P : Program} {f : FuncId} {args : Array Value} {w : World} {a n : Nat} {v : Value} (h : Calls P f args (w.drewN (a + n)) (RetQ (w.drewN (a + n)) v)) :
    Calls P f args (w.drewN (a + n)) fun e w'' => e = .returned v ∧ ∃ m, w'' = w.drewN (a + m) := h.mono fun _ _ ⟨he, hm⟩ => ⟨he, n, hm.symm⟩
theorem quietDa {P : Program} {f : FuncId} {args : Array Value} {w : World} {a n : Nat} {v : Value} (h : Calls P f args (w.drewN (a + n)) (RetD (w.drewN (a + n)) v)) :
    Calls P f args (w.drewN (a + n)) fun e w'' => e = .returned v ∧ ∃ m, w'' = w.drewN (a + m) := h.mono fun _ _ ⟨he, m, hm⟩ => ⟨he, n + m, by rw [hm, World.drewN_drewN, Nat.add_assoc]⟩

/-- a later world: below the old size as it was -/
structure BW (w : World) where
  wd : World
  h : Below w.heap.size w wd
instance BW.some {w : World} : Nonempty (BW w) := ⟨⟨w, Below.refl _ _⟩⟩
theorem BW.cell {w : World} (x : BW w) (b o : Nat) (h : b < w.heap.size) : x.wd.cell? ⟨b, o, none⟩ = w.cell? ⟨b, o, none⟩ := x.h.cell (p := ⟨b, o, none⟩) h
theorem BW.frozen {w : World} (x : BW w) (b o : Nat) (h : b < w.heap.size) : x.wd.frozen? ⟨b, o, none⟩ = w.frozen? ⟨b, o, none⟩ := x.h.frozen (p := ⟨b, o, none⟩) h
/-- a region that draws its order, whose operations read and whose callees make memory at the most: one walk, in the order of the text -/
theorem wp_region_below {P : Program} {id : Nat} {Q : Exit → Act → World → Prop} {a : Act} {w : World} {l : List Oper} (hm : P.follows .mixedOrders = true) (hB : Region.lexB .any l.toArray = true)
    (h : wpQuiet P l.toArray (fun w' => ∃ x : BW w, w' = x.wd) (fun a' => ∀ w', (∃ x : BW w, w' = x.wd) → Q .normal a' w') l a) : (Code.region id l.toArray true).wp P Q a w :=
  wp_region_quiet (C := fun w' => ∃ x : BW w, w' = x.wd) hm hB ⟨⟨_, (Below.refl _ w).drew⟩, rfl⟩ (by simpa using h)
theorem quietB {P : Program} {f : FuncId} {args : Array Value} {w : World} {x : BW w} {v : Value} (h : Calls P f args x.wd (RetV x.wd v)) :
    Calls P f args x.wd fun e w'' => e = .returned v ∧ ∃ y : BW w, w'' = y.wd := h.mono fun _ w'' ⟨he, hb⟩ => ⟨he, ⟨w'', Below.then_ x.h hb⟩, rfl⟩
theorem RetQ.v {w w' : World} {v : Value} {e : Ending} (h : RetQ w v e w') : RetV w v e w' := by
  obtain ⟨h1, rfl⟩ := h
  exact ⟨h1, Below.refl _ _⟩

end Go.Proofs.YtjoimponfeofkaaGreat

namespace Go.Proofs.YtjoimponfeofkaaGreat
open Go.RowKit
theorem box2b {w w' : World} {cs ds : Array Value} {t t' : TypeId} (hb : Below ((w.alloc (.cells cs t)).alloc (.cells ds t')).heap.size ((w.alloc (.cells cs t)).alloc (.cells ds t')) w') : Blk w' w.heap.size t cs ∧ Blk w' (w.heap.size + 1) t' ds := by
  refine ⟨Blk.below ((Blk.new _ _ _).alloc _) hb, Blk.below ?_ hb⟩
  have := Blk.new (w.alloc (.cells cs t)) t' ds
  simpa using this
theorem Below.alloc_ {w w1 : World} (h : Below w.heap.size w w1) (o : Obj) : Below w.heap.size w (w1.alloc o) := h.alloc h.size o
theorem Below.set_ {w w1 : World} {p : Addr} (h : Below w.heap.size w w1) (hp : w.heap.size ≤ p.block) (u : Value) : Below w.heap.size w (w1.setCell p u) := h.setCell hp u
theorem drew_size (w : World) : w.drew.heap.size = w.heap.size := rfl
theorem drew_cell (w : World) (a : Addr) : w.drew.cell? a = w.cell? a := rfl
theorem drew_frozen (w : World) (a : Addr) : w.drew.frozen? a = w.frozen? a := rfl
end Go.Proofs.YtjoimponfeofkaaGreat

namespace Go.Proofs.YtjoimponfeofkaaGreat

theorem ints_ext' {xs ys : List Int} (hl : xs.length = ys.length) (h : ∀ j, j < xs.length → gi xs j = gi ys j) : xs = ys := by
  apply List.ext_getElem hl
  intro i h1 h2
  have := h i h1
  rwa [gi_lt h1, gi_lt h2] at this

/-- lo ≤ n ≤ hi -/
def inB (n lo hi : Int) : Bool := decide (lo ≤ n) && decide (n ≤ hi)
theorem inB_iff {n lo hi : Int} : inB n lo hi = true ↔ lo ≤ n ∧ n ≤ hi := by simp [inB]
theorem inB_false {n lo hi : Int} : inB n lo hi = false ↔ n < lo ∨ hi < n := by
  rw [← Bool.not_eq_true, inB_iff]; omega
def hasB (xs : List Int) (n : Int) : Bool := xs.contains n
def allB (xs : List Int) (lo hi : Int) : Bool := xs.all fun n => inB n lo hi

theorem take_snoc' {α : Type} {xs : List α} {k : Nat} (h : k < xs.length) : xs.take (k + 1) = xs.take k ++ [xs[k]] := by
  rw [List.take_succ_eq_append_getElem h]
theorem take_gi {xs : List Int} {k : Nat} (h : k < xs.length) : xs.take (k + 1) = xs.take k ++ [gi xs k] := by
  rw [take_snoc' h, gi_lt h]
theorem hasB_take {xs : List Int} {k : Nat} {n : Int} (h : k < xs.length) : hasB (xs.take (k + 1)) n = (hasB (xs.take k) n || (gi xs k == n)) := by
  rw [take_gi h]; simp only [hasB, List.contains_eq_any_beq, List.any_append, List.any_cons, List.any_nil, Bool.or_false]
  congr 1
  rw [Bool.eq_iff_iff]; simp only [beq_iff_eq]; constructor <;> intro h <;> exact h.symm
theorem allB_take {xs : List Int} {k : Nat} {lo hi : Int} (h : k < xs.length) : allB (xs.take (k + 1)) lo hi = (allB (xs.take k) lo hi && inB (gi xs k) lo hi) := by
  rw [take_gi h]; simp [allB]
theorem hasB_mem {xs : List Int} {n : Int} : hasB xs n = true ↔ n ∈ xs := by simp [hasB]
theorem hasB_of_lt {xs : List Int} {n : Int} {k : Nat} (h : k < xs.length) (e : gi xs k = n) : hasB xs n = true := by
  rw [hasB_mem, ← e, gi_lt h]; exact List.getElem_mem h
theorem hasB_false_all {xs : List Int} {n : Int} : hasB xs n = false ↔ ∀ k, k < xs.length → gi xs k ≠ n := by
  rw [← Bool.not_eq_true, hasB_mem]
  constructor
  · intro h k hk e; exact h (by rw [← e, gi_lt hk]; exact List.getElem_mem hk)
  · intro h hm
    obtain ⟨k, hk, e⟩ := List.getElem_of_mem hm
    exact h k hk (by rw [gi_lt hk, e])
theorem allB_iff {xs : List Int} {lo hi : Int} : allB xs lo hi = true ↔ ∀ k, k < xs.length → inB (gi xs k) lo hi = true := by
  simp only [allB, List.all_eq_true]
  constructor
  · intro h k hk; rw [gi_lt hk]; exact h _ (List.getElem_mem hk)
  · intro h x hx
    obtain ⟨k, hk, rfl⟩ := List.getElem_of_mem hx
    have := h k hk; rwa [gi_lt hk] at this

/-- distinct numbers in a range, as the reference asks it -/
def idsUpto (xs : List Int) (k : Nat) : Prop := ∀ i, i < k → inB (gi xs i) 1 999999 = true ∧ hasB (xs.take i) (gi xs i) = false
def idsB (xs : List Int) (n : Int) : Bool := decide (∀ i, i < xs.length → inB (gi xs i) 1 999999 = true ∧ hasB (xs.take i) (gi xs i) = false) && (xs.length == 0 || (xs.length : Int) == n)

/-- the port j of node k, which leads to port p of node a, is joined with a port that is joined with it -/
def endOkW (N : Net) (k j : Nat) (a p : Int) : Prop :=
  inB a 0 ((N.ends.length : Int) - 1) = true ∧ inB p 0 (((gl N.ends a.toNat).length : Int) - 1) = true ∧ gp (gl N.ends a.toNat) p.toNat = ((k : Int), (j : Int))
def endOk (N : Net) (k j : Nat) : Prop := endOkW N k j (gp (gl N.ends k) j).1 (gp (gl N.ends k) j).2
def rowOk (N : Net) (k : Nat) : Prop := (gl N.ends k).length ≤ 6 ∧ ∀ j, j < (gl N.ends k).length → endOk N k j
def endsOk (N : Net) : Prop := ∀ k, k < N.ends.length → rowOk N k
open Classical in
/-- a valid network -/
noncomputable def goodB (N : Net) : Bool :=
  inB N.ends.length 1 40 && idsB N.ids N.ends.length && (N.inputs.length == N.ends.length) && allB N.inputs 0 9 && decide (endsOk N)
theorem goodB_iff {N : Net} : goodB N = true ↔ inB N.ends.length 1 40 = true ∧ idsB N.ids N.ends.length = true ∧ N.inputs.length = N.ends.length ∧ allB N.inputs 0 9 = true ∧ endsOk N := by
  simp [goodB, and_assoc]
theorem goodB_false {N : Net} (h : ¬ (inB N.ends.length 1 40 = true ∧ idsB N.ids N.ends.length = true ∧ N.inputs.length = N.ends.length ∧ allB N.inputs 0 9 = true ∧ endsOk N)) : goodB N = false := by
  rw [← Bool.not_eq_true, goodB_iff]; exact h

end Go.Proofs.YtjoimponfeofkaaGreat

namespace Go.Proofs.YtjoimponfeofkaaGreat

theorem gl_set {ess : List (List (Int × Int))} {i j : Nat} {es : List (Int × Int)} (hi : i < ess.length) : gl (ess.set i es) j = if j = i then es else gl ess j := by
  unfold gl
  simp only [List.getD_eq_getElem?_getD, List.getElem?_set]
  by_cases h : i = j
  · subst h; simp [hi]
  · have : ¬ j = i := fun e => h e.symm
    simp [h, this]
/-- the end at port i of node a -/
def pt (ess : List (List (Int × Int))) (a i : Nat) : Int × Int := gp (gl ess a) i
/-- the degree of node a -/
def dg (ess : List (List (Int × Int))) (a : Nat) : Nat := (gl ess a).length
/-- each port leads to a port that leads back -/
def Sym (ess : List (List (Int × Int))) : Prop := ∀ a i, a < ess.length → i < dg ess a → ∃ b j : Nat, pt ess a i = ((b : Int), (j : Int)) ∧ b < ess.length ∧ j < dg ess b ∧ pt ess b j = ((a : Int), (i : Int))

theorem dg_out {ess : List (List (Int × Int))} {a : Nat} (h : ¬ a < ess.length) : dg ess a = 0 := by
  unfold dg gl
  simp only [List.getD_eq_getElem?_getD]
  rw [List.getElem?_eq_none (by omega)]
  rfl
theorem gp_app {xs ys : List (Int × Int)} {i : Nat} : gp (xs ++ ys) i = if i < xs.length then gp xs i else gp ys (i - xs.length) := by
  unfold gp
  simp only [List.getD_eq_getElem?_getD]
  by_cases h : i < xs.length
  · rw [if_pos h, List.getElem?_append_left h]
  · rw [if_neg h, List.getElem?_append_right (by omega)]
theorem gp_zero (x : Int × Int) (l : List (Int × Int)) : gp (x :: l) 0 = x := rfl

theorem endsOk_iff {N : Net} : endsOk N ↔ (∀ k, k < N.ends.length → dg N.ends k ≤ 6) ∧ Sym N.ends := by
  constructor
  · intro h
    refine ⟨fun k hk => (h k hk).1, fun a i ha hi => ?_⟩
    obtain ⟨h1, h2, h3⟩ := (h a ha).2 i hi
    rw [inB_iff] at h1 h2
    refine ⟨(gp (gl N.ends a) i).1.toNat, (gp (gl N.ends a) i).2.toNat, ?_, by omega, by unfold dg; omega, h3⟩
    unfold pt
    ext <;> simp <;> omega
  · rintro ⟨h1, h2⟩ k hk
    refine ⟨h1 k hk, fun j hj => ?_⟩
    obtain ⟨b, i, e, hb, hi, e2⟩ := h2 k j hk hj
    unfold pt at e e2
    unfold dg at hi
    unfold endOk endOkW
    rw [e]
    simp only [Int.toNat_natCast]
    exact ⟨inB_iff.2 (by omega), inB_iff.2 (by omega), e2⟩

/-- n nodes without edges -/
def emptyN (n : Nat) : Net := ⟨List.replicate n [], [], List.replicate n 0⟩

theorem gl_replicate {n i : Nat} : gl (List.replicate n []) i = [] := by
  unfold gl
  simp only [List.getD_eq_getElem?_getD, List.getElem?_replicate]
  split <;> rfl

theorem Sym.empty (n : Nat) : Sym (List.replicate n []) := fun a i ha hi => by
  have : dg (List.replicate n []) a = 0 := by
    unfold dg gl
    simp only [List.getD_eq_getElem?_getD, List.getElem?_replicate]
    split <;> rfl
  omega

/-- a new port of v and a new port of x, joined -/
def joinE (ess : List (List (Int × Int))) (v x : Nat) : List (List (Int × Int)) :=
  let i := (gl ess v).length
  let j := (gl ess x).length + (if v = x then 1 else 0)
  let ess1 := ess.set v (gl ess v ++ [((x : Int), (j : Int))])
  ess1.set x (gl ess1 x ++ [((v : Int), (i : Int))])
def joinN (N : Net) (v x : Nat) : Net := { N with ends := joinE N.ends v x }


theorem joinE_len (ess : List (List (Int × Int))) (v x : Nat) : (joinE ess v x).length = ess.length := by simp [joinE]
theorem joinE_gl {ess : List (List (Int × Int))} {v x : Nat} (hv : v < ess.length) (hx : x < ess.length) (a : Nat) :
    gl (joinE ess v x) a = gl ess a ++ (if a = v then [((x : Int), ((dg ess x + (if v = x then 1 else 0) : Nat) : Int))] else []) ++ (if a = x then [((v : Int), (dg ess v : Int))] else []) := by
  unfold joinE
  simp only
  rw [gl_set (by simpa using hx)]
  by_cases h1 : a = x
  · subst h1
    rw [if_pos rfl, if_pos rfl, gl_set hv]
    by_cases h2 : a = v
    · subst h2; simp [dg]
    · rw [if_neg h2, if_neg h2]; simp [dg]
  · rw [if_neg h1, if_neg h1, gl_set hv]
    by_cases h2 : a = v
    · subst h2; simp [dg]
    · rw [if_neg h2, if_neg h2]; simp
theorem joinE_dg {ess : List (List (Int × Int))} {v x : Nat} (hv : v < ess.length) (hx : x < ess.length) (a : Nat) : dg (joinE ess v x) a = dg ess a + (if a = v then 1 else 0) + (if a = x then 1 else 0) := by
  unfold dg
  rw [joinE_gl hv hx]
  simp only [List.length_append]
  congr 1
  · congr 1; split <;> rfl
  · split <;> rfl
/-- an old port is as it was -/
theorem joinE_old {ess : List (List (Int × Int))} {v x : Nat} (hv : v < ess.length) (hx : x < ess.length) {a i : Nat} (hi : i < dg ess a) : pt (joinE ess v x) a i = pt ess a i := by
  unfold pt
  rw [joinE_gl hv hx, List.append_assoc, gp_app, if_pos (show i < (gl ess a).length from hi)]
/-- the two new ports -/
theorem joinE_new1 {ess : List (List (Int × Int))} {v x : Nat} (hv : v < ess.length) (hx : x < ess.length) : pt (joinE ess v x) v (dg ess v) = ((x : Int), ((dg ess x + (if v = x then 1 else 0) : Nat) : Int)) := by
  unfold pt
  rw [joinE_gl hv hx, List.append_assoc, gp_app, if_neg (by simp [dg]), if_pos rfl]
  simp [dg, gp]
theorem joinE_new2 {ess : List (List (Int × Int))} {v x : Nat} (hv : v < ess.length) (hx : x < ess.length) : pt (joinE ess v x) x (dg ess x + (if v = x then 1 else 0)) = ((v : Int), (dg ess v : Int)) := by
  unfold pt
  rw [joinE_gl hv hx, gp_app]
  by_cases h : v = x
  · subst h
    simp [dg, gp]
  · have h2 : ¬ x = v := fun e => h e.symm
    simp [dg, gp, h, h2]
theorem Sym.join {ess : List (List (Int × Int))} {v x : Nat} (h : Sym ess) (hv : v < ess.length) (hx : x < ess.length) : Sym (joinE ess v x) := by
  intro a i ha hi
  rw [joinE_len] at ha ⊢
  have hd := joinE_dg hv hx
  rw [hd a] at hi
  by_cases h0 : i < dg ess a
  · obtain ⟨b, j, e, hb, hj, e2⟩ := h a i ha h0
    refine ⟨b, j, by rw [joinE_old hv hx h0]; exact e, hb, by rw [hd b]; omega, by rw [joinE_old hv hx hj]; exact e2⟩
  · by_cases hvx : v = x
    · subst hvx
      by_cases hav : a = v
      · subst hav
        simp only [if_true] at hi
        by_cases h1 : i = dg ess a
        · subst h1
          have e1 := joinE_new1 hv hx
          have e2 := joinE_new2 hv hx
          simp only [if_true] at e1 e2
          exact ⟨a, dg ess a + 1, e1, ha, by rw [hd a]; simp, e2⟩
        · obtain rfl : i = dg ess a + 1 := by omega
          have e1 := joinE_new1 hv hx
          have e2 := joinE_new2 hv hx
          simp only [if_true] at e1 e2
          exact ⟨a, dg ess a, e2, ha, by rw [hd a]; simp; omega, e1⟩
      · simp only [hav, if_false] at hi; omega
    · have e1 := joinE_new1 hv hx
      have e2 := joinE_new2 hv hx
      simp only [hvx, if_false, Nat.add_zero] at e1 e2
      have hxv : ¬ x = v := fun e => hvx e.symm
      by_cases hav : a = v
      · subst hav
        simp only [if_true, hvx, if_false] at hi
        obtain rfl : i = dg ess a := by omega
        exact ⟨x, dg ess x, e1, hx, by rw [hd x]; simp [hxv], e2⟩
      · by_cases hax : a = x
        · subst hax
          simp only [hav, if_false, if_true] at hi
          obtain rfl : i = dg ess a := by omega
          exact ⟨v, dg ess v, e2, hv, by rw [hd v]; simp; omega, e1⟩
        · simp only [hav, hax, if_false] at hi; omega
end Go.Proofs.YtjoimponfeofkaaGreat

namespace Go.Proofs.YtjoimponfeofkaaGreat

/-- a view that was read: its degree, its input, the ports and the parts -/
inductive VT where
  | mk (deg inp : Nat) (ports : List Nat) (parts : List VT) : VT

namespace VT
def deg : VT → Nat | mk d _ _ _ => d
def inp : VT → Nat | mk _ i _ _ => i
def ports : VT → List Nat | mk _ _ ps _ => ps
def parts : VT → List VT | mk _ _ _ ts => ts
end VT

mutual
/-- the depth: one more than that of the deepest part -/
def VT.dep : VT → Nat | .mk _ _ _ ts => deps ts
def deps : List VT → Nat | [] => 0 | t :: ts => max (t.dep + 1) (deps ts)
end
mutual
/-- all parts have one depth -/
def VT.uni : VT → Bool | .mk _ _ _ ts => unis ts
def unis : List VT → Bool | [] => true | t :: ts => t.uni && (ts.all fun x => x.dep == t.dep) && unis ts
end
mutual
/-- the view can have the depth k -/
def VT.fits : VT → Nat → Bool | .mk d _ _ ts, k => d == 0 || ((ts.isEmpty == (k == 0)) && fitss ts (k - 1))
def fitss : List VT → Nat → Bool | [], _ => true | t :: ts, k => t.fits k && fitss ts k
end

/-- a digit of at most a number -/
def dgt (most : Nat) : List UInt8 → Option (Nat × List UInt8)
  | [] => none
  | c :: r => if 48 ≤ c.toNat ∧ c.toNat ≤ 48 + most then some (c.toNat - 48, r) else none
/-- a given byte -/
def sgn (b : UInt8) : List UInt8 → Option (List UInt8)
  | [] => none
  | c :: r => if c = b then some r else none
/-- n parts, the first behind the byte s, the others behind a comma -/
def pks (p : List UInt8 → Option (VT × List UInt8)) : Nat → UInt8 → List UInt8 → Option (List Nat × List VT × List UInt8)
  | 0, _, l => some ([], [], l)
  | n + 1, s, l =>
    match sgn s l with
    | none => none
    | some l1 => match dgt 5 l1 with
      | none => none
      | some (j, l2) => match sgn 58 l2 with
        | none => none
        | some l3 => match p l3 with
          | none => none
          | some (t, l4) => if j < t.deg then
              match pks p n 44 l4 with
              | none => none
              | some (ps, ts, l5) => some (j :: ps, t :: ts, l5)
            else none
/-- a view -/
def pv : Nat → List UInt8 → Option (VT × List UInt8)
  | 0, _ => none
  | f + 1, l =>
    match dgt 6 l with
    | none => none
    | some (d, l1) => match sgn 46 l1 with
      | none => none
      | some l2 => match dgt 9 l2 with
        | none => none
        | some (i, l3) => if d = 0 ∨ l3.head? ≠ some 40 then some (.mk d i [] [], l3) else
            match pks (pv f) d 40 l3 with
            | none => none
            | some (ps, ts, l4) => match sgn 41 l4 with
              | none => none
              | some l5 => some (.mk d i ps ts, l5)

theorem dgt_len {m : Nat} {l r : List UInt8} {d : Nat} (h : dgt m l = some (d, r)) : l.length = r.length + 1 ∧ d ≤ m := by
  cases l with
  | nil => simp [dgt] at h
  | cons c l =>
    simp only [dgt] at h
    split at h
    · simp at h; obtain ⟨rfl, rfl⟩ := h; simp; omega
    · cases h
theorem sgn_len {b : UInt8} {l r : List UInt8} (h : sgn b l = some r) : l.length = r.length + 1 := by
  cases l with
  | nil => simp [sgn] at h
  | cons c l =>
    simp only [sgn] at h
    split at h
    · simp at h; subst h; simp
    · cases h

theorem pks_len {p : List UInt8 → Option (VT × List UInt8)} (hp : ∀ l t r, p l = some (t, r) → r.length + 3 ≤ l.length) {n : Nat} {s : UInt8} {l r : List UInt8} {ps : List Nat} {ts : List VT} (h : pks p n s l = some (ps, ts, r)) :
    r.length + 6 * n ≤ l.length ∧ ps.length = n ∧ ts.length = n := by
  induction n generalizing s l r ps ts with
  | zero => simp [pks] at h; obtain ⟨rfl, rfl, rfl⟩ := h; simp
  | succ n ih =>
    unfold pks at h
    split at h; · cases h
    rename_i l1 h1
    split at h; · cases h
    rename_i j l2 h2
    split at h; · cases h
    rename_i l3 h3
    split at h; · cases h
    rename_i t l4 h4
    split at h
    · split at h; · cases h
      rename_i ps' ts' l5 h5
      simp at h
      obtain ⟨rfl, rfl, rfl⟩ := h
      have := ih h5
      have := sgn_len h1
      have := dgt_len h2
      have := sgn_len h3
      have := hp _ _ _ h4
      simp; omega
    · cases h
theorem pv_len {f : Nat} {l r : List UInt8} {t : VT} (h : pv f l = some (t, r)) : r.length + 3 ≤ l.length := by
  induction f generalizing l r t with
  | zero => cases h
  | succ f ih =>
    unfold pv at h
    split at h; · cases h
    rename_i d l1 h1
    split at h; · cases h
    rename_i l2 h2
    split at h; · cases h
    rename_i i l3 h3
    have := dgt_len h1
    have := sgn_len h2
    have := dgt_len h3
    split at h
    · simp at h; obtain ⟨rfl, rfl⟩ := h; omega
    · split at h; · cases h
      rename_i ps ts l4 h4
      split at h; · cases h
      rename_i l5 h5
      simp at h; obtain ⟨rfl, rfl⟩ := h
      have := sgn_len h5
      have := (pks_len (fun _ _ _ => ih) h4).1
      omega

theorem deps_snoc (ts : List VT) (t : VT) : deps (ts ++ [t]) = max (deps ts) (t.dep + 1) := by
  induction ts with
  | nil => simp [deps]
  | cons x ts ih => simp only [List.cons_append, deps, ih]; omega
theorem deps_ge {ts : List VT} {t : VT} (h : t ∈ ts) : t.dep + 1 ≤ deps ts := by
  induction ts with
  | nil => cases h
  | cons x ts ih =>
    simp only [deps]
    rcases List.mem_cons.1 h with rfl | h
    · omega
    · have := ih h; omega
theorem deps_pos {ts : List VT} (h : ts ≠ []) : 0 < deps ts := by
  cases ts with
  | nil => exact absurd rfl h
  | cons x ts => simp only [deps]; omega

/-- what has been read before, put ahead of what comes -/
def pre (ps : List Nat) (ts : List VT) (x : Option (List Nat × List VT × List UInt8)) : Option (List Nat × List VT × List UInt8) := x.map fun (qs, us, r) => (ps ++ qs, ts ++ us, r)
theorem pre_none (ps : List Nat) (ts : List VT) : pre ps ts none = none := rfl
theorem pre_nil (x : Option (List Nat × List VT × List UInt8)) : pre [] [] x = x := by
  cases x <;> rfl
theorem pre_zero (p : List UInt8 → Option (VT × List UInt8)) (s : UInt8) (l : List UInt8) (ps : List Nat) (ts : List VT) : pre ps ts (pks p 0 s l) = some (ps, ts, l) := by simp [pre, pks]
/-- one more part -/
theorem pre_step (p : List UInt8 → Option (VT × List UInt8)) {n : Nat} {s : UInt8} {l l1 l2 l3 l4 : List UInt8} {j : Nat} {t : VT} (ps : List Nat) (ts : List VT)
    (h1 : sgn s l = some l1) (h2 : dgt 5 l1 = some (j, l2)) (h3 : sgn 58 l2 = some l3) (h4 : p l3 = some (t, l4)) (h5 : j < t.deg) :
    pre ps ts (pks p (n + 1) s l) = pre (ps ++ [j]) (ts ++ [t]) (pks p n 44 l4) := by
  rw [pks, h1]
  simp only [h2, h3, h4, h5, if_true]
  cases pks p n 44 l4 with
  | none => rfl
  | some x => obtain ⟨qs, us, r⟩ := x; simp [pre]
theorem pks_none1 (p : List UInt8 → Option (VT × List UInt8)) {n : Nat} {s : UInt8} {l : List UInt8} (h : sgn s l = none) : pks p (n + 1) s l = none := by simp [pks, h]
theorem pks_none2 (p : List UInt8 → Option (VT × List UInt8)) {n : Nat} {s : UInt8} {l l1 : List UInt8} (h1 : sgn s l = some l1) (h : dgt 5 l1 = none) : pks p (n + 1) s l = none := by simp [pks, h1, h]
theorem pks_none3 (p : List UInt8 → Option (VT × List UInt8)) {n : Nat} {s : UInt8} {l l1 l2 : List UInt8} {j : Nat} (h1 : sgn s l = some l1) (h2 : dgt 5 l1 = some (j, l2)) (h : sgn 58 l2 = none) : pks p (n + 1) s l = none := by simp [pks, h1, h2, h]
theorem pks_none4 (p : List UInt8 → Option (VT × List UInt8)) {n : Nat} {s : UInt8} {l l1 l2 l3 : List UInt8} {j : Nat} (h1 : sgn s l = some l1) (h2 : dgt 5 l1 = some (j, l2)) (h3 : sgn 58 l2 = some l3) (h : p l3 = none) : pks p (n + 1) s l = none := by simp [pks, h1, h2, h3, h]
theorem pks_none5 (p : List UInt8 → Option (VT × List UInt8)) {n : Nat} {s : UInt8} {l l1 l2 l3 l4 : List UInt8} {j : Nat} {t : VT} (h1 : sgn s l = some l1) (h2 : dgt 5 l1 = some (j, l2)) (h3 : sgn 58 l2 = some l3) (h4 : p l3 = some (t, l4)) (h : ¬ j < t.deg) : pks p (n + 1) s l = none := by simp [pks, h1, h2, h3, h4, h]

/-- what the program takes: one depth everywhere, at most 80 -/
def VT.good (t : VT) : Bool := t.uni && decide (t.dep ≤ 80)
/-- what the parser of the program gives -/
def pg (f : Nat) (l : List UInt8) : Option (VT × List UInt8) := match pv f l with
  | none => none
  | some (t, r) => if t.good = true then some (t, r) else none

theorem uni_mk {d i : Nat} {ps : List Nat} {ts : List VT} : (VT.mk d i ps ts).uni = unis ts := by simp [VT.uni]
theorem dep_mk {d i : Nat} {ps : List Nat} {ts : List VT} : (VT.mk d i ps ts).dep = deps ts := by simp [VT.dep]
theorem unis_iff {ts : List VT} : unis ts = true ↔ (∀ t ∈ ts, t.uni = true) ∧ ∀ t ∈ ts, t.dep + 1 = deps ts := by
  induction ts with
  | nil => simp [unis]
  | cons x ts ih =>
    simp only [unis, Bool.and_eq_true, List.all_eq_true, beq_iff_eq, ih, List.mem_cons, forall_eq_or_imp, deps]
    constructor
    · rintro ⟨⟨h1, h2⟩, h3, h4⟩
      have h5 : max (x.dep + 1) (deps ts) = x.dep + 1 := by
        cases ts with
        | nil => simp [deps]
        | cons y ts =>
          have := h4 y (by simp)
          have := h2 y (by simp)
          omega
      exact ⟨⟨h1, h3⟩, by omega, fun t ht => by have := h2 t ht; omega⟩
    · rintro ⟨⟨h1, h3⟩, h5, h6⟩
      have h7 : ∀ t ∈ ts, t.dep = x.dep := fun t ht => by have := h6 t ht; omega
      refine ⟨⟨h1, h7⟩, h3, fun t ht => ?_⟩
      have h8 : deps ts ≤ max (x.dep + 1) (deps ts) := by omega
      have := deps_ge ht
      have := h6 t ht
      omega

/-- a part that is not good, or one of another depth: the whole is not good -/
theorem good_part {d i : Nat} {ps : List Nat} {ts : List VT} {t : VT} (h : (VT.mk d i ps ts).good = true) (ht : t ∈ ts) : t.good = true := by
  simp only [VT.good, Bool.and_eq_true, decide_eq_true_eq, uni_mk, dep_mk] at h ⊢
  obtain ⟨h1, h2⟩ := unis_iff.1 h.1
  exact ⟨h1 t ht, by have := deps_ge ht; omega⟩
theorem good_same {d i : Nat} {ps : List Nat} {ts : List VT} {t u : VT} (h : (VT.mk d i ps ts).good = true) (ht : t ∈ ts) (hu : u ∈ ts) : t.dep = u.dep := by
  simp only [VT.good, Bool.and_eq_true, uni_mk] at h
  obtain ⟨h1, h2⟩ := unis_iff.1 h.1
  have := h2 t ht
  have := h2 u hu
  omega
theorem good_mk {d i : Nat} {ps : List Nat} {ts : List VT} (h1 : ∀ t ∈ ts, t.good = true) (h2 : ∀ t ∈ ts, ∀ u ∈ ts, t.dep = u.dep) (h3 : deps ts ≤ 80) : (VT.mk d i ps ts).good = true := by
  simp only [VT.good, Bool.and_eq_true, decide_eq_true_eq, uni_mk, dep_mk]
  refine ⟨unis_iff.2 ⟨fun t ht => ?_, ?_⟩, h3⟩
  · have := h1 t ht
    simp only [VT.good, Bool.and_eq_true] at this
    exact this.1
  · have key : ∀ us : List VT, (∀ t ∈ us, ∀ u ∈ us, t.dep = u.dep) → ∀ t ∈ us, t.dep + 1 = deps us := by
      intro us
      induction us with
      | nil => intro _ t ht; cases ht
      | cons x us ih =>
        intro h t ht
        have h4 : t.dep = x.dep := h t ht x (by simp)
        simp only [deps]
        cases us with
        | nil => simp [deps]; omega
        | cons y us =>
          have := ih (fun t ht u hu => h t (by simp [List.mem_cons.1 ht]) u (by simp [List.mem_cons.1 hu])) y (by simp)
          have := h y (by simp) x (by simp)
          omega
    exact key ts h2
end Go.Proofs.YtjoimponfeofkaaGreat

namespace Go.Proofs.YtjoimponfeofkaaGreat

mutual
/-- a tree that a parser gives -/
def VT.wf : VT → Bool | .mk d i ps ts => decide (d ≤ 6) && decide (i ≤ 9) && decide (ps.length = ts.length) && (ts.isEmpty || decide (ts.length = d)) && wfs ps ts
def wfs : List Nat → List VT → Bool
  | _, [] => true
  | [], _ :: _ => false
  | p :: ps, t :: ts => decide (p ≤ 5) && decide (p < t.deg) && t.wf && wfs ps ts
end
theorem wf_mk {d i : Nat} {ps : List Nat} {ts : List VT} : (VT.mk d i ps ts).wf = true ↔ d ≤ 6 ∧ i ≤ 9 ∧ ps.length = ts.length ∧ (ts = [] ∨ ts.length = d) ∧ wfs ps ts = true := by
  simp [VT.wf, and_assoc]
theorem wfs_cons {p : Nat} {ps : List Nat} {t : VT} {ts : List VT} : wfs (p :: ps) (t :: ts) = true ↔ p ≤ 5 ∧ p < t.deg ∧ t.wf = true ∧ wfs ps ts = true := by
  simp [wfs, and_assoc]

theorem pks_wf {p : List UInt8 → Option (VT × List UInt8)} (hp : ∀ l t r, p l = some (t, r) → t.wf = true) {n : Nat} {s : UInt8} {l r : List UInt8} {ps : List Nat} {ts : List VT} (h : pks p n s l = some (ps, ts, r)) :
    wfs ps ts = true ∧ ps.length = n ∧ ts.length = n := by
  induction n generalizing s l r ps ts with
  | zero => simp [pks] at h; obtain ⟨rfl, rfl, rfl⟩ := h; simp [wfs]
  | succ n ih =>
    unfold pks at h
    split at h; · cases h
    rename_i l1 h1
    split at h; · cases h
    rename_i j l2 h2
    split at h; · cases h
    rename_i l3 h3
    split at h; · cases h
    rename_i t l4 h4
    split at h
    · split at h; · cases h
      rename_i ps' ts' l5 h5
      simp at h
      obtain ⟨rfl, rfl, rfl⟩ := h
      obtain ⟨i1, i2, i3⟩ := ih h5
      have := dgt_len h2
      exact ⟨wfs_cons.2 ⟨by omega, by assumption, hp _ _ _ h4, i1⟩, by simp [i2], by simp [i3]⟩
    · cases h
theorem pv_wf {f : Nat} {l r : List UInt8} {t : VT} (h : pv f l = some (t, r)) : t.wf = true := by
  induction f generalizing l r t with
  | zero => cases h
  | succ f ih =>
    unfold pv at h
    split at h; · cases h
    rename_i d l1 h1
    split at h; · cases h
    rename_i l2 h2
    split at h; · cases h
    rename_i i l3 h3
    have := dgt_len h1
    have := dgt_len h3
    split at h
    · simp at h; obtain ⟨rfl, rfl⟩ := h
      exact wf_mk.2 ⟨by omega, by omega, rfl, .inl rfl, by simp [wfs]⟩
    · split at h; · cases h
      rename_i ps ts l4 h4
      split at h; · cases h
      simp at h; obtain ⟨rfl, rfl⟩ := h
      obtain ⟨i1, i2, i3⟩ := pks_wf (fun _ _ _ => ih) h4
      exact wf_mk.2 ⟨by omega, by omega, by omega, .inr i3, i1⟩

mutual
theorem fits_iff : ∀ (t : VT) (k : Nat), t.wf = true → (t.fits k = true ↔ (t.deg = 0 ∨ (t.uni = true ∧ t.dep = k)))
  | .mk d i ps ts, k, h => by
    obtain ⟨h1, h2, h3, h4, h5⟩ := wf_mk.1 h
    have ih := fitss_iff ts ps (k - 1) h5
    simp only [VT.fits, VT.deg, uni_mk, dep_mk, Bool.or_eq_true, beq_iff_eq, Bool.and_eq_true]
    by_cases hd : d = 0
    · simp [hd]
    · simp only [hd, false_or]
      rw [ih, unis_iff]
      cases ts with
      | nil => simp [deps]; exact eq_comm
      | cons x ts =>
        simp only [List.isEmpty_cons]
        constructor
        · rintro ⟨e, hx⟩
          have hk : k ≠ 0 := by simpa using e
          have e2 : deps (x :: ts) = k := by
            have := (unis_iff (ts := x :: ts)).1
            have key : ∀ us : List VT, us ≠ [] → (∀ t ∈ us, t.uni = true ∧ t.dep = k - 1) → deps us = k := by
              intro us
              induction us with
              | nil => intro h; exact absurd rfl h
              | cons y us ih =>
                intro _ h
                have := (h y (by simp)).2
                simp only [deps]
                cases us with
                | nil => simp [deps]; omega
                | cons z us => have := ih (by simp) (fun t ht => h t (by simp [List.mem_cons.1 ht])); omega
            exact key _ (by simp) hx
          exact ⟨⟨fun t ht => (hx t ht).1, fun t ht => by have := (hx t ht).2; omega⟩, e2⟩
        · rintro ⟨⟨a1, a2⟩, e⟩
          have := a2 x (by simp)
          refine ⟨by have : k ≠ 0 := by omega
                     simp [this], fun t ht => ⟨a1 t ht, by have := a2 t ht; omega⟩⟩
theorem fitss_iff : ∀ (ts : List VT) (ps : List Nat) (k : Nat), wfs ps ts = true → (fitss ts k = true ↔ ∀ t ∈ ts, t.uni = true ∧ t.dep = k)
  | [], _, _, _ => by simp [fitss]
  | t :: ts, [], _, h => by simp [wfs] at h
  | t :: ts, p :: ps, k, h => by
    obtain ⟨h1, h2, h3, h4⟩ := wfs_cons.1 h
    have i1 := fits_iff t k h3
    have i2 := fitss_iff ts ps k h4
    have hd : t.deg ≠ 0 := by omega
    simp only [fitss, Bool.and_eq_true, i1, i2, hd, false_or, List.mem_cons, forall_eq_or_imp]
end

/-- the reference's test is the program's -/
theorem good_fits {t : VT} (h : t.wf = true) : (decide (t.dep ≤ 80) && t.fits t.dep) = t.good := by
  rw [Bool.eq_iff_iff]
  simp only [Bool.and_eq_true, decide_eq_true_eq, VT.good]
  rw [fits_iff t _ h]
  constructor
  · rintro ⟨h1, h2 | h2⟩
    · obtain ⟨d, i, ps, ts⟩ := t
      obtain ⟨a1, a2, a3, a4, a5⟩ := wf_mk.1 h
      simp only [VT.deg] at h2
      have : ts = [] := by
        rcases a4 with a4 | a4
        · exact a4
        · exact List.eq_nil_of_length_eq_zero (by omega)
      subst this
      exact ⟨by simp [VT.uni, unis], h1⟩
    · exact ⟨h2.1, h1⟩
  · rintro ⟨h1, h2⟩
    exact ⟨h2, .inr ⟨h1, rfl⟩⟩

/-- a digit -/
def dch (n : Nat) : UInt8 := UInt8.ofNat (48 + n)
theorem dch_nat {n : Nat} (h : n ≤ 9) : (dch n).toNat = 48 + n := by simp [dch]; omega
mutual
/-- the text of the beginning of depth k -/
def VT.txt : Nat → VT → List UInt8 | k, .mk d i ps ts => dch d :: 46 :: dch i :: (if k = 0 ∨ ts.isEmpty = true then [] else txts (k - 1) 40 ps ts ++ [41])
def txts : Nat → UInt8 → List Nat → List VT → List UInt8
  | _, _, _, [] => []
  | _, _, [], _ :: _ => []
  | k, s, p :: ps, t :: ts => s :: dch p :: 58 :: (t.txt k ++ txts k 44 ps ts)
end
mutual
/-- the beginning of depth k -/
def VT.cut : Nat → VT → VT | k, .mk d i ps ts => if k = 0 ∨ ts.isEmpty = true then .mk d i [] [] else .mk d i ps (cuts (k - 1) ts)
def cuts : Nat → List VT → List VT | _, [] => [] | k, t :: ts => t.cut k :: cuts k ts
end
theorem cuts_len (k : Nat) (ts : List VT) : (cuts k ts).length = ts.length := by
  induction ts with
  | nil => simp [cuts]
  | cons t ts ih => simp [cuts, ih]
theorem cuts_mem {k : Nat} {ts : List VT} {u : VT} (h : u ∈ cuts k ts) : ∃ t ∈ ts, u = t.cut k := by
  induction ts with
  | nil => simp [cuts] at h
  | cons t ts ih =>
    simp only [cuts, List.mem_cons] at h
    rcases h with rfl | h
    · exact ⟨t, by simp, rfl⟩
    · obtain ⟨x, hx, e⟩ := ih h
      exact ⟨x, by simp [hx], e⟩
theorem cut_deg (k : Nat) (t : VT) : (t.cut k).deg = t.deg := by
  obtain ⟨d, i, ps, ts⟩ := t
  simp only [VT.cut]
  split <;> rfl

mutual
theorem cut_dep : ∀ (t : VT) (k : Nat), (t.cut k).dep = min k t.dep
  | .mk d i ps ts, k => by
    simp only [VT.cut]
    split
    · rename_i h
      rcases h with h | h
      · simp [dep_mk, deps, h]
      · have : ts = [] := by simpa using h
        simp [dep_mk, deps, this]
    · rename_i h
      have hk : k ≠ 0 := fun e => h (.inl e)
      rw [dep_mk, dep_mk, cuts_deps ts (k - 1)]
      have : ts ≠ [] := fun e => h (.inr (by simp [e]))
      have := deps_pos this
      simp only [if_neg ‹ts ≠ []›]
      omega
theorem cuts_deps : ∀ (ts : List VT) (k : Nat), deps (cuts k ts) = if ts = [] then 0 else min (k + 1) (deps ts)
  | [], k => by simp [cuts, deps]
  | t :: ts, k => by
    simp only [cuts, deps, cut_dep t k, cuts_deps ts k]
    cases ts with
    | nil => simp [deps]
    | cons x ts => simp only [reduceCtorEq, if_false]; omega
end
mutual
theorem cut_uni : ∀ (t : VT) (k : Nat), t.uni = true → (t.cut k).uni = true
  | .mk d i ps ts, k, h => by
    simp only [VT.cut]
    split
    · simp [uni_mk, unis]
    · rw [uni_mk] at h ⊢
      exact cuts_unis ts (k - 1) h
theorem cuts_unis : ∀ (ts : List VT) (k : Nat), unis ts = true → unis (cuts k ts) = true
  | [], k, _ => by simp [cuts, unis]
  | t :: ts, k, h => by
    simp only [unis, Bool.and_eq_true, List.all_eq_true, beq_iff_eq] at h
    simp only [cuts, unis, Bool.and_eq_true, List.all_eq_true, beq_iff_eq]
    refine ⟨⟨cut_uni t k h.1.1, fun x hx => ?_⟩, cuts_unis ts k h.2⟩
    obtain ⟨y, hy, rfl⟩ := cuts_mem hx
    rw [cut_dep, cut_dep, h.1.2 y hy]
end
theorem cut_good {t : VT} (k : Nat) (h : t.good = true) : (t.cut k).good = true := by
  simp only [VT.good, Bool.and_eq_true, decide_eq_true_eq] at h ⊢
  exact ⟨cut_uni t k h.1, by rw [cut_dep]; omega⟩

theorem dgt_dch {m n : Nat} (h : n ≤ m) (hm : m ≤ 9) (r : List UInt8) : dgt m (dch n :: r) = some (n, r) := by
  have := dch_nat (n := n) (by omega)
  simp only [dgt, this]
  rw [if_pos (by omega)]
  simp
theorem sgn_cons (b : UInt8) (r : List UInt8) : sgn b (b :: r) = some r := by simp [sgn]
mutual
theorem pv_txt : ∀ (t : VT) (k f : Nat) (r : List UInt8), t.wf = true → (t.txt k).length ≤ f → r.head? ≠ some 40 → pv f (t.txt k ++ r) = some (t.cut k, r)
  | .mk d i ps ts, k, f, r, h, hf, hr => by
    obtain ⟨h1, h2, h3, h4, h5⟩ := wf_mk.1 h
    cases f with
    | zero => simp [VT.txt] at hf
    | succ f =>
      simp only [VT.txt, VT.cut] at hf ⊢
      by_cases hk : k = 0 ∨ ts.isEmpty = true
      · simp only [if_pos hk, List.cons_append, List.nil_append]
        simp only [pv, dgt_dch h1 (by omega : 6 ≤ 9), sgn_cons, dgt_dch h2 (Nat.le_refl 9)]
        rw [if_pos (.inr hr)]
      · simp only [if_neg hk, List.cons_append, List.nil_append, List.append_assoc] at hf ⊢
        simp only [pv, dgt_dch h1 (by omega : 6 ≤ 9), sgn_cons, dgt_dch h2 (Nat.le_refl 9)]
        have hts : ts ≠ [] := fun e => hk (.inr (by simp [e]))
        have hd : ts.length = d := by rcases h4 with h4 | h4; exact absurd h4 hts; exact h4
        have hne : d ≠ 0 := by
          have := List.length_pos_iff.2 hts
          omega
        have hh : (txts (k - 1) 40 ps ts ++ (41 :: r)).head? = some 40 := by
          cases ts with
          | nil => exact absurd rfl hts
          | cons t ts => cases ps with
            | nil => simp at h3
            | cons p ps => simp [txts]
        simp only [List.length_cons, List.length_append, List.length_nil] at hf
        have ih := pks_txts ts ps (k - 1) 40 f (41 :: r) h5 h3 (by omega) (by simp)
        rw [hd] at ih
        rw [if_neg (by rw [hh]; simp [hne]), ih]
        simp [sgn]
theorem pks_txts : ∀ (ts : List VT) (ps : List Nat) (k : Nat) (s : UInt8) (f : Nat) (r : List UInt8), wfs ps ts = true → ps.length = ts.length → (txts k s ps ts).length ≤ f → r.head? ≠ some 40 →
    pks (pv f) ts.length s (txts k s ps ts ++ r) = some (ps, cuts k ts, r)
  | [], ps, k, s, f, r, _, hl, _, _ => by
    have : ps = [] := List.eq_nil_of_length_eq_zero (by simpa using hl)
    simp [pks, txts, cuts, this]
  | t :: ts, [], _, _, _, _, _, hl, _, _ => by simp at hl
  | t :: ts, p :: ps, k, s, f, r, h, hl, hf, hr => by
    obtain ⟨h1, h2, h3, h4⟩ := wfs_cons.1 h
    simp only [txts, List.length_cons, List.length_append] at hf
    have hh : (txts k 44 ps ts ++ r).head? ≠ some 40 := by
      cases ts with
      | nil => simpa [txts] using hr
      | cons t ts => cases ps with
        | nil => simp at hl
        | cons p ps => simp [txts]
    have i1 := pv_txt t k f (txts k 44 ps ts ++ r) h3 (by omega) hh
    have i2 := pks_txts ts ps k 44 f r h4 (by simpa using hl) (by omega) hr
    simp only [txts, List.length_cons, List.cons_append, List.append_assoc, cuts]
    simp only [pks, sgn_cons, dgt_dch h1 (by omega : 5 ≤ 9), i1, cut_deg, h2, if_true, i2]
end
theorem pg_txt {t : VT} {k f : Nat} (hw : t.wf = true) (hg : t.good = true) (hf : (t.txt k).length ≤ f) : pg f (t.txt k) = some (t.cut k, []) := by
  have := pv_txt t k f [] hw hf (by simp)
  rw [List.append_nil] at this
  simp only [pg, this, cut_good k hg, if_true]
end Go.Proofs.YtjoimponfeofkaaGreat

namespace Go.Proofs.YtjoimponfeofkaaGreat

theorem sgn_head {b : UInt8} {l : List UInt8} : (∃ r, sgn b l = some r) ↔ l.head? = some b := by
  cases l with
  | nil => simp [sgn]
  | cons c l => simp [sgn]
section
variable {f d i : Nat} {l l1 l2 l3 l4 : List UInt8}
theorem pv_no1 (h : dgt 6 l = none) : pv (f + 1) l = none := by simp [pv, h]
theorem pv_no2 (h1 : dgt 6 l = some (d, l1)) (h : sgn 46 l1 = none) : pv (f + 1) l = none := by simp [pv, h1, h]
theorem pv_no3 (h1 : dgt 6 l = some (d, l1)) (h2 : sgn 46 l1 = some l2) (h : dgt 9 l2 = none) : pv (f + 1) l = none := by simp [pv, h1, h2, h]
theorem pv_leaf (h1 : dgt 6 l = some (d, l1)) (h2 : sgn 46 l1 = some l2) (h3 : dgt 9 l2 = some (i, l3)) (h : d = 0 ∨ sgn 40 l3 = none) : pv (f + 1) l = some (.mk d i [] [], l3) := by
  simp only [pv, h1, h2, h3]
  rw [if_pos]
  rcases h with h | h
  · exact .inl h
  · refine .inr fun e => ?_
    obtain ⟨r, hr⟩ := sgn_head.2 e
    rw [h] at hr; cases hr
/-- what stands behind the parts -/
def fin (d i : Nat) (x : Option (List Nat × List VT × List UInt8)) : Option (VT × List UInt8) := match x with
  | none => none
  | some (ps, ts, l4) => match sgn 41 l4 with
    | none => none
    | some l5 => some (.mk d i ps ts, l5)
theorem pv_kids (h1 : dgt 6 l = some (d, l1)) (h2 : sgn 46 l1 = some l2) (h3 : dgt 9 l2 = some (i, l3)) (hd : d ≠ 0) (h : sgn 40 l3 = some l4) : pv (f + 1) l = fin d i (pks (pv f) d 40 l3) := by
  have hh := sgn_head.1 ⟨l4, h⟩
  simp only [pv, h1, h2, h3]
  rw [if_neg (by simp [hd, hh])]
  rfl
end
theorem pg_none {f : Nat} {l : List UInt8} (h : pv f l = none) : pg f l = none := by simp [pg, h]
theorem pg_bad {f : Nat} {l : List UInt8} (h : ∀ t r, pv f l = some (t, r) → t.good = false) : pg f l = none := by
  unfold pg
  cases hp : pv f l with
  | none => rfl
  | some x =>
    obtain ⟨t, r⟩ := x
    simp [h t r hp]
theorem pg_some {f : Nat} {l r : List UInt8} {t : VT} (h : pv f l = some (t, r)) (hg : t.good = true) : pg f l = some (t, r) := by simp [pg, h, hg]
theorem pg_inv {f : Nat} {l r : List UInt8} {t : VT} (h : pg f l = some (t, r)) : pv f l = some (t, r) ∧ t.good = true := by
  unfold pg at h
  split at h
  · cases h
  · split at h
    · simp at h; obtain ⟨rfl, rfl⟩ := h; exact ⟨by assumption, by assumption⟩
    · cases h
theorem pg_no {f : Nat} {l : List UInt8} (h : pg f l = none) : pv f l = none ∨ ∃ t r, pv f l = some (t, r) ∧ t.good = false := by
  unfold pg at h
  split at h
  · exact .inl (by assumption)
  · split at h
    · cases h
    · rename_i hq hn
      exact .inr ⟨_, _, hq, by simpa using hn⟩
theorem leaf_good (d i : Nat) : (VT.mk d i [] []).good = true := by simp [VT.good, VT.uni, unis, VT.dep, deps]
theorem fin_mem {d i : Nat} {ps : List Nat} {ts : List VT} {x : Option (List Nat × List VT × List UInt8)} {t : VT} {r : List UInt8} (h : fin d i (pre ps ts x) = some (t, r)) : ∀ u ∈ ts, u ∈ t.parts := by
  cases x with
  | none => simp [pre, fin] at h
  | some y =>
    obtain ⟨qs, us, l⟩ := y
    simp only [pre, Option.map_some, fin] at h
    split at h
    · cases h
    · simp at h; obtain ⟨rfl, rfl⟩ := h
      intro u hu
      simp [VT.parts, hu]
theorem good_parts {t u : VT} (h : t.good = true) (hu : u ∈ t.parts) : u.good = true := by
  obtain ⟨d, i, ps, ts⟩ := t
  exact good_part h hu
theorem good_parts_same {t u v : VT} (h : t.good = true) (hu : u ∈ t.parts) (hv : v ∈ t.parts) : u.dep = v.dep := by
  obtain ⟨d, i, ps, ts⟩ := t
  exact good_same h hu hv
/-- a part that is not good -/
theorem pg_part {f d i : Nat} {ps : List Nat} {ts : List VT} {x : Option (List Nat × List VT × List UInt8)} {l : List UInt8} (h : pv f l = fin d i (pre ps ts x)) {u : VT} (hu : u ∈ ts) (hb : u.good = false) : pg f l = none :=
  pg_bad fun t r ht => by
    cases hg : t.good
    · rfl
    · have := good_parts hg (fin_mem (h ▸ ht) u hu)
      rw [hb] at this; cases this
/-- two parts of different depths -/
theorem pg_differ {f d i : Nat} {ps : List Nat} {ts : List VT} {x : Option (List Nat × List VT × List UInt8)} {l : List UInt8} (h : pv f l = fin d i (pre ps ts x)) {u v : VT} (hu : u ∈ ts) (hv : v ∈ ts) (hb : u.dep ≠ v.dep) : pg f l = none :=
  pg_bad fun t r ht => by
    cases hg : t.good
    · rfl
    · exact absurd (good_parts_same hg (fin_mem (h ▸ ht) u hu) (fin_mem (h ▸ ht) v hv)) hb
theorem deps_same {ts : List VT} {k : Nat} (h : ∀ t ∈ ts, t.dep = k) (hn : ts ≠ []) : deps ts = k + 1 := by
  induction ts with
  | nil => exact absurd rfl hn
  | cons x ts ih =>
    have h1 := h x (by simp)
    simp only [deps]
    by_cases he : ts = []
    · subst he; simp [deps]; omega
    · have := ih (fun t ht => h t (by simp [ht])) he; omega
end Go.Proofs.YtjoimponfeofkaaGreat
