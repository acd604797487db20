/- Parts of the proof, joined: Mem, Bx, Fun, Sym, Tree, Upt, Pmn, Sym2, Nets, Drw, Sym3, Nch, Vt. -/
import Derived.WalkKit
import Derived.WalkSpells
import Derived.WalkLawsBesides
import Derived.Outline
import Derived.Lib.Hide
import Derived.Deep.OwnRows
import Derived.OwnWalk
import Derived.Maps.AppendAt
import Derived.Deep.AppendLies
import Derived.Deep.QuietTactic
import Derived.BigQuiet
import Derived.Deep.LoopGhost
namespace Go.Proofs.YtljjbhihllnnaaaGreat
open Go.RowKit

/-- the number at a place of a list -/
def gi (xs : List Int) (j : Nat) : Int := xs.getD j 0
/-- the pair at a place -/
def gp (es : List (Int × Int)) (j : Nat) : Int × Int := es.getD j (0, 0)
/-- the list at a place -/
def gl (ess : List (List (Int × Int))) (j : Nat) : List (Int × Int) := ess.getD j []

theorem gi_lt {xs : List Int} {j : Nat} (h : j < xs.length) : gi xs j = xs[j] := by simp [gi, h]
theorem gp_lt {xs : List (Int × Int)} {j : Nat} (h : j < xs.length) : gp xs j = xs[j] := by simp [gp, h]
theorem gl_lt {xs : List (List (Int × Int))} {j : Nat} (h : j < xs.length) : gl xs j = xs[j] := by simp [gl, h]

theorem lt_of_cell {w : World} {b o : Nat} {v : Value} (h : w.cell? ⟨b, o, none⟩ = some v) : b < w.heap.size := World.block_lt_of_cell? w _ h

/-- a slice of ints; its block meets S -/
def IntsR (w : World) (S : Nat → Prop) (v : Value) (xs : List Int) : Prop :=
  ∃ A c, v = .slice A xs.length c ∧ xs.length ≤ c ∧ c ≤ maxLen ∧
    (0 < xs.length → ∃ b off, A = some ⟨b, off, none⟩ ∧ S b ∧ ∀ j, j < xs.length → w.cell? ⟨b, off + j, none⟩ = some (.int .i64 (gi xs j)))

/-- a slice of pairs of ints -/
def EndsR (w : World) (S : Nat → Prop) (v : Value) (es : List (Int × Int)) : Prop :=
  ∃ A c, v = .slice A es.length c ∧ es.length ≤ c ∧ c ≤ maxLen ∧
    (0 < es.length → ∃ b off, A = some ⟨b, off, none⟩ ∧ S b ∧ ∀ j, j < es.length →
      w.cell? ⟨b, off + j * 2, none⟩ = some (.int .i64 (gp es j).1) ∧ w.cell? ⟨b, off + j * 2 + 1, none⟩ = some (.int .i64 (gp es j).2))

/-- a slice of slices of pairs -/
def EndSSR (w : World) (S : Nat → Prop) (v : Value) (ess : List (List (Int × Int))) : Prop :=
  ∃ A c, v = .slice A ess.length c ∧ ess.length ≤ c ∧ c ≤ maxLen ∧
    (0 < ess.length → ∃ b off, A = some ⟨b, off, none⟩ ∧ S b ∧ ∀ j, j < ess.length →
      ∃ u, w.cell? ⟨b, off + j, none⟩ = some u ∧ EndsR w S u (gl ess j))

structure Net where
  ends : List (List (Int × Int))
  ids : List Int
  inputs : List Int

def NetR (w : World) (S : Nat → Prop) (v : Value) (N : Net) : Prop :=
  ∃ ve vi vn, v = .agg #[ve, vi, vn] ∧ EndSSR w S ve N.ends ∧ IntsR w S vi N.ids ∧ IntsR w S vn N.inputs

section
variable {w w' : World} {S S' : Nat → Prop} {v : Value}

theorem IntsR.keep {xs} (h : IntsR w S v xs) (hS : ∀ b, S b → S' b) (hk : ∀ b, S b → b < w.heap.size → w'.heap[b]? = w.heap[b]?) : IntsR w' S' v xs := by
  obtain ⟨A, c, hv, h1, h2, h3⟩ := h
  refine ⟨A, c, hv, h1, h2, fun hn => ?_⟩
  obtain ⟨b, off, hA, hb, hc⟩ := h3 hn
  exact ⟨b, off, hA, hS b hb, fun j hj => (World.cell?_of_block (hk b hb (lt_of_cell (hc 0 hn)))).trans (hc j hj)⟩
theorem EndsR.keep {xs} (h : EndsR w S v xs) (hS : ∀ b, S b → S' b) (hk : ∀ b, S b → b < w.heap.size → w'.heap[b]? = w.heap[b]?) : EndsR w' S' v xs := by
  obtain ⟨A, c, hv, h1, h2, h3⟩ := h
  refine ⟨A, c, hv, h1, h2, fun hn => ?_⟩
  obtain ⟨b, off, hA, hb, hc⟩ := h3 hn
  exact ⟨b, off, hA, hS b hb, fun j hj => ⟨(World.cell?_of_block (hk b hb (lt_of_cell (hc 0 hn).1))).trans (hc j hj).1, (World.cell?_of_block (hk b hb (lt_of_cell (hc 0 hn).1))).trans (hc j hj).2⟩⟩
theorem EndSSR.keep {xs} (h : EndSSR w S v xs) (hS : ∀ b, S b → S' b) (hk : ∀ b, S b → b < w.heap.size → w'.heap[b]? = w.heap[b]?) : EndSSR w' S' v xs := by
  obtain ⟨A, c, hv, h1, h2, h3⟩ := h
  refine ⟨A, c, hv, h1, h2, fun hn => ?_⟩
  obtain ⟨b, off, hA, hb, hc⟩ := h3 hn
  refine ⟨b, off, hA, hS b hb, fun j hj => ?_⟩
  obtain ⟨u, hu, hr⟩ := hc j hj
  exact ⟨u, (World.cell?_of_block (hk b hb (lt_of_cell hu))).trans hu, hr.keep hS hk⟩
theorem NetR.keep {N} (h : NetR w S v N) (hS : ∀ b, S b → S' b) (hk : ∀ b, S b → b < w.heap.size → w'.heap[b]? = w.heap[b]?) : NetR w' S' v N := by
  obtain ⟨ve, vi, vn, hv, h1, h2, h3⟩ := h
  exact ⟨ve, vi, vn, hv, h1.keep hS hk, h2.keep hS hk, h3.keep hS hk⟩

theorem IntsR.below {xs} (h : IntsR w S v xs) (hb : Below w.heap.size w w') : IntsR w' S v xs := h.keep (fun _ h => h) fun b _ hl => hb.block b hl
theorem EndsR.below {xs} (h : EndsR w S v xs) (hb : Below w.heap.size w w') : EndsR w' S v xs := h.keep (fun _ h => h) fun b _ hl => hb.block b hl
theorem EndSSR.below {xs} (h : EndSSR w S v xs) (hb : Below w.heap.size w w') : EndSSR w' S v xs := h.keep (fun _ h => h) fun b _ hl => hb.block b hl
theorem NetR.below {N} (h : NetR w S v N) (hb : Below w.heap.size w w') : NetR w' S v N := h.keep (fun _ h => h) fun b _ hl => hb.block b hl

theorem IntsR.weak {xs} (h : IntsR w S v xs) (hS : ∀ b, S b → S' b) : IntsR w S' v xs := h.keep hS fun _ _ _ => rfl
theorem EndsR.weak {xs} (h : EndsR w S v xs) (hS : ∀ b, S b → S' b) : EndsR w S' v xs := h.keep hS fun _ _ _ => rfl
theorem EndSSR.weak {xs} (h : EndSSR w S v xs) (hS : ∀ b, S b → S' b) : EndSSR w S' v xs := h.keep hS fun _ _ _ => rfl
theorem NetR.weak {N} (h : NetR w S v N) (hS : ∀ b, S b → S' b) : NetR w S' v N := h.keep hS fun _ _ _ => rfl

theorem IntsR.nil : IntsR w S (.slice none 0 0) [] := ⟨none, 0, rfl, Nat.le_refl _, by simp [maxLen], fun h => absurd h (Nat.lt_irrefl _)⟩

theorem IntsR.bound {xs} (h : IntsR w S v xs) : xs.length ≤ 9223372036854775807 := by
  obtain ⟨A, c, hv, h1, h2, h3⟩ := h
  unfold maxLen at h2; omega
end

/-- below the old size nothing has turned, in two steps -/
theorem Below.then_ {w w1 w2 : World} (h : Below w.heap.size w w1) (k : Below w1.heap.size w1 w2) : Below w.heap.size w w2 := h.trans (k.mono h.size)
theorem Below.thenB {B : Nat} {w w1 w2 : World} (h : Below B w w1) (k : Below w1.heap.size w1 w2) (hB : B ≤ w1.heap.size) : Below B w w2 := h.trans (k.mono hB)

theorem below_drewN {B : Nat} {a w : World} (h : Below B a w) (n : Nat) : Below B a (w.drewN n) := ⟨h.os, h.tape, h.output, h.size, h.block⟩

/-- all old cells and marks read as before: rules for the walk -/
theorem bcell {W w1 : World} (hb : Below W.heap.size W w1) : (∀ b o, b < W.heap.size → w1.cell? ⟨b, o, none⟩ = W.cell? ⟨b, o, none⟩) ∧ (∀ b o, b < W.heap.size → w1.frozen? ⟨b, o, none⟩ = W.frozen? ⟨b, o, none⟩) :=
  ⟨fun b o h => hb.cell (p := ⟨b, o, none⟩) h, fun b o h => hb.frozen (p := ⟨b, o, none⟩) h⟩

/-- what a boxed argument holds in every later world -/
theorem box1 {w w' : World} {cs : Array Value} {t : TypeId} (hb : Below (w.alloc (.cells cs t)).heap.size (w.alloc (.cells cs t)) w') :
    ∀ i, w'.cell? ⟨w.heap.size, i, none⟩ = cs[i]? := fun i => by
  rw [hb.cell (by simp)]
  exact cell_of_row _ _ _ cs t (0, 0) (heap_alloc_new w _)
theorem box2 {w w' : World} {cs ds : Array Value} {t t' : TypeId} (hb : Below ((w.alloc (.cells cs t)).alloc (.cells ds t')).heap.size ((w.alloc (.cells cs t)).alloc (.cells ds t')) w') :
    (∀ i, w'.cell? ⟨w.heap.size, i, none⟩ = cs[i]?) ∧ (∀ i, w'.cell? ⟨w.heap.size + 1, i, none⟩ = ds[i]?) := by
  constructor
  · intro i
    rw [hb.cell (by simp; omega)]
    exact cell_of_row _ _ _ cs t (0, 0) ((Below.heap_alloc _ _ _ (by simp)).trans (heap_alloc_new w _))
  · intro i
    rw [hb.cell (by simp)]
    have := heap_alloc_new (w.alloc (.cells cs t)) (.cells ds t')
    simp only [World.size_alloc] at this
    exact cell_of_row _ _ _ ds t' (0, 0) this

/-- block g is known whole -/
def Blk (w : World) (g : Nat) (t : TypeId) (cs : Array Value) : Prop := w.heap[g]? = some (.cells cs t (0, 0))
section
variable {w w' : World} {g : Nat} {t : TypeId} {cs : Array Value}
theorem Blk.lt (h : Blk w g t cs) : g < w.heap.size := by
  rcases Nat.lt_or_ge g w.heap.size with hlt | hge
  · exact hlt
  · unfold Blk at h; rw [Array.getElem?_eq_none hge] at h; cases h
theorem Blk.cell (h : Blk w g t cs) : ∀ i, w.cell? ⟨g, i, none⟩ = cs[i]? := fun i => cell_of_row w g i cs t (0, 0) h
theorem Blk.free (h : Blk w g t cs) : ∀ i, w.frozen? ⟨g, i, none⟩ = false := fun i => by
  unfold Blk at h
  simp [World.frozen?, h]
theorem Blk.new (w : World) (t : TypeId) (cs : Array Value) : Blk (w.alloc (.cells cs t)) w.heap.size t cs := heap_alloc_new w _
theorem Blk.alloc (h : Blk w g t cs) (o : Obj) : Blk (w.alloc o) g t cs := (Below.heap_alloc w o g h.lt).trans h
theorem Blk.put (h : Blk w g t cs) (i : Nat) (u : Value) : Blk (w.setCell ⟨g, i, none⟩ u) g t (cs.setIfInBounds i u) := by
  unfold Blk at h ⊢
  simp [World.setCell, Array.getElem?_modify, h]
theorem Blk.far (h : Blk w g t cs) {p : Addr} (hp : g ≠ p.block) (u : Value) : Blk (w.setCell p u) g t cs := (Below.heap_setCell w p u g hp).trans h
theorem Blk.below (h : Blk w g t cs) (hb : Below w.heap.size w w') : Blk w' g t cs := (hb.block g h.lt).trans h
end

/-- three blocks, then a call -/
theorem box3 {w w' : World} {a b c : Array Value} {t t' t'' : TypeId} (hb : Below (((w.alloc (.cells a t)).alloc (.cells b t')).alloc (.cells c t'')).heap.size (((w.alloc (.cells a t)).alloc (.cells b t')).alloc (.cells c t'')) w') :
    Blk w' w.heap.size t a ∧ Blk w' (w.heap.size + 1) t' b ∧ Blk w' (w.heap.size + 1 + 1) t'' c := by
  refine ⟨Blk.below (((Blk.new _ _ _).alloc _).alloc _) hb, Blk.below (Blk.alloc ?_ _) hb, Blk.below ?_ hb⟩
  · have := Blk.new (w.alloc (.cells a t)) t' b
    simpa using this
  · have := Blk.new ((w.alloc (.cells a t)).alloc (.cells b t')) t'' c
    simpa using this

/-- numbers as cells -/
def ic (xs : List Int) : List Value := xs.map (Value.int .i64)
theorem ic_length (xs : List Int) : (ic xs).length = xs.length := by simp [ic]
theorem ic_get {xs : List Int} {j : Nat} (h : j < xs.length) : (ic xs)[j]? = some (.int .i64 (gi xs j)) := by simp [ic, gi, h]

/-- a slice of ints that the call owns, in a block from B on -/
def OwnI (w : World) (B : Nat) (v : Value) (xs : List Int) : Prop := w.ownsRow B 3 1 v xs.length (ic xs)

theorem OwnI.ints {w : World} {B : Nat} {v : Value} {xs : List Int} (h : OwnI w B v xs) : IntsR w (fun b => B ≤ b) v xs := by
  obtain ⟨h1, h2⟩ := h
  rcases h2 with ⟨rfl, hn⟩ | ⟨g, cap, cur, rfl, hB, hg, hnc, hm, hs, ht⟩
  · exact ⟨none, 0, by rw [hn], by omega, by simp [maxLen], fun h => absurd h (by omega)⟩
  · refine ⟨_, cap, rfl, hnc, hm, fun hn => ⟨g, 0, rfl, hB, fun j hj => ?_⟩⟩
    rw [Nat.zero_add, cell_of_row w g j cur _ (0, 0) hg]
    have := ic_get hj
    rw [← ht, List.getElem?_take] at this
    split at this
    · simpa using this
    · cases this
theorem OwnI.shape {w : World} {B : Nat} {v : Value} {xs : List Int} (h : OwnI w B v xs) : ∃ A c, v = .slice A xs.length c := by
  rcases h.2 with ⟨rfl, hn⟩ | ⟨g, cap, cur, rfl, _⟩
  · exact ⟨none, 0, by rw [hn]⟩
  · exact ⟨_, _, rfl⟩
theorem OwnI.below {w w' : World} {B : Nat} {v : Value} {xs : List Int} (h : OwnI w B v xs) (hb : Below w.heap.size w w') : OwnI w' B v xs := by
  obtain ⟨h1, h2⟩ := h
  refine ⟨h1, ?_⟩
  rcases h2 with h2 | ⟨g, cap, cur, hv, hB, hg, h⟩
  · exact .inl h2
  · exact .inr ⟨g, cap, cur, hv, hB, (hb.block g (Array.getElem?_eq_some_iff.1 hg).1).trans hg, h⟩
theorem OwnI.keepB {w w' : World} {B : Nat} {v : Value} {xs : List Int} (h : OwnI w B v xs) (hk : ∀ b, B ≤ b → b < w.heap.size → w'.heap[b]? = w.heap[b]?) : OwnI w' B v xs := by
  obtain ⟨h1, h2⟩ := h
  refine ⟨h1, ?_⟩
  rcases h2 with h2 | ⟨g, cap, cur, hv, hB, hg, h⟩
  · exact .inl h2
  · exact .inr ⟨g, cap, cur, hv, hB, (hk g hB (Array.getElem?_eq_some_iff.1 hg).1).trans hg, h⟩
theorem OwnI.far {w : World} {B : Nat} {v : Value} {xs : List Int} (h : OwnI w B v xs) {p : Addr} (hp : p.block < B) (u : Value) : OwnI (w.setCell p u) B v xs :=
  h.keepB fun b hb _ => Below.heap_setCell w p u b (by omega)
theorem OwnI.mono {w : World} {B B' : Nat} {v : Value} {xs : List Int} (h : OwnI w B v xs) (hB : B' ≤ B) : OwnI w B' v xs := by
  obtain ⟨h1, h2⟩ := h
  refine ⟨h1, ?_⟩
  rcases h2 with h2 | ⟨g, cap, cur, hv, hb, h⟩
  · exact .inl h2
  · exact .inr ⟨g, cap, cur, hv, by omega, h⟩
theorem OwnI.of_rowIs {w : World} {B g n : Nat} {xs : List Int} (h : w.rowIs g 3 n (fun i => .int .i64 (gi xs i))) (hl : xs.length = n) (hB : B ≤ g) (hm : n ≤ maxLen) : OwnI w B (.slice (some ⟨g, 0, none⟩) n n) xs := by
  obtain ⟨c, hc, hs, hf⟩ := h
  subst hl
  refine ⟨by simp [ic], .inr ⟨g, xs.length, c, rfl, hB, hc, Nat.le_refl _, hm, by omega, ?_⟩⟩
  apply List.ext_getElem?
  intro i
  by_cases hi : i < xs.length
  · rw [List.getElem?_take_of_lt (by omega), ic_get hi]
    simpa using hf i hi
  · rw [List.getElem?_eq_none (by simp; omega), List.getElem?_eq_none (by simp [ic]; omega)]

/-- what a function that makes a slice of ints gives -/
def RetI (w : World) (xs : List Int) (e : Ending) (w' : World) : Prop := ∃ v, e = .returned v ∧ OwnI w' w.heap.size v xs ∧ Below w.heap.size w w'
/-- a function that reads, computes, and may make memory of its own -/
def RetV (w : World) (v : Value) (e : Ending) (w' : World) : Prop := e = .returned v ∧ Below w.heap.size w w'
/-- a function that only reads, in an open order -/
def RetD (w : World) (v : Value) (e : Ending) (w' : World) : Prop := e = .returned v ∧ ∃ n, w' = w.drewN n
theorem RetD.v {w w' : World} {v : Value} {e : Ending} (h : RetD w v e w') : RetV w v e w' := by
  obtain ⟨h1, n, rfl⟩ := h
  exact ⟨h1, below_drewN (Below.refl _ _) n⟩
/-- a function that leaves the world alone -/
def RetQ (w : World) (v : Value) (e : Ending) (w' : World) : Prop := e = .returned v ∧ w = w'

/-- quiet contracts inside a region that draws -/
theorem quietQ {P : Program} {f : FuncId} {args : Array Value} {w : World} {n : Nat} {v : Value} (h : Calls P f args (w.drewN n) (RetQ (w.drewN n) v)) :
    Calls P f args (w.drewN n) fun e w'' => e = .returned v ∧ ∃ m, w'' = w.drewN m := h.mono fun _ _ ⟨he, hm⟩ => ⟨he, n, hm.symm⟩
theorem quietD {P : Program} {f : FuncId} {args : Array Value} {w : World} {n : Nat} {v : Value} (h : Calls P f args (w.drewN n) (RetD (w.drewN n) v)) :
    Calls P f args (w.drewN n) fun e w'' => e = .returned v ∧ ∃ m, w'' = w.drewN m := h.mono fun _ _ ⟨he, m, hm⟩ => ⟨he, n + m, by rw [hm, World.drewN_drewN]⟩
theorem quietQa {P : Program} {f : FuncId} {args : Array Value} {w : World} {a n : Nat} {v : Value} (h : Calls P f args (w.drewN (a + n)) (RetQ (w.drewN (a + n)) v)) :
    Calls P f args (w.drewN (a + n)) fun e w'' => e = .returned v ∧ ∃ m, w'' = w.drewN (a + m) := h.mono fun _ _ ⟨he, hm⟩ => ⟨he, n, hm.symm⟩
theorem quietDa {P : Program} {f : FuncId} {args : Array Value} {w : World} {a n : Nat} {v : Value} (h : Calls P f args (w.drewN (a + n)) (RetD (w.drewN (a + n)) v)) :
    Calls P f args (w.drewN (a + n)) fun e w'' => e = .returned v ∧ ∃ m, w'' = w.drewN (a + m) := h.mono fun _ _ ⟨he, m, hm⟩ => ⟨he, n + m, by rw [hm, World.drewN_drewN, Nat.add_assoc]⟩

/-- a later world: below the old size as it was -/
structure BW (w : World) where
  wd : World
  h : Below w.heap.size w wd
instance BW.some {w : World} : Nonempty (BW w) := ⟨⟨w, Below.refl _ _⟩⟩
theorem BW.cell {w : World} (x : BW w) (b o : Nat) (h : b < w.heap.size) : x.wd.cell? ⟨b, o, none⟩ = w.cell? ⟨b, o, none⟩ := x.h.cell (p := ⟨b, o, none⟩) h
theorem BW.frozen {w : World} (x : BW w) (b o : Nat) (h : b < w.heap.size) : x.wd.frozen? ⟨b, o, none⟩ = w.frozen? ⟨b, o, none⟩ := x.h.frozen (p := ⟨b, o, none⟩) h
/-- a region that draws its order, whose operations read and whose callees make memory at the most: one walk, in the order of the text -/
theorem wp_region_below {P : Program} {id : Nat} {Q : Exit → Act → World → Prop} {a : Act} {w : World} {l : List Oper} (hm : P.follows .mixedOrders = true) (hB : Region.lexB .any l.toArray = true)
    (h : wpQuiet P l.toArray (fun w' => ∃ x : BW w, w' = x.wd) (fun a' => ∀ w', (∃ x : BW w, w' = x.wd) → Q .normal a' w') l a) : (Code.region id l.toArray true).wp P Q a w :=
  wp_region_quiet (C := fun w' => ∃ x : BW w, w' = x.wd) hm hB ⟨⟨_, (Below.refl _ w).drew⟩, rfl⟩ (by simpa using h)
theorem quietB {P : Program} {f : FuncId} {args : Array Value} {w : World} {x : BW w} {v : Value} (h : Calls P f args x.wd (RetV x.wd v)) :
    Calls P f args x.wd fun e w'' => e = .returned v ∧ ∃ y : BW w, w'' = y.wd := h.mono fun _ w'' ⟨he, hb⟩ => ⟨he, ⟨w'', Below.then_ x.h hb⟩, rfl⟩
theorem RetQ.v {w w' : World} {v : Value} {e : Ending} (h : RetQ w v e w') : RetV w v e w' := by
  obtain ⟨h1, rfl⟩ := h
  exact ⟨h1, Below.refl _ _⟩

end Go.Proofs.YtljjbhihllnnaaaGreat

namespace Go.Proofs.YtljjbhihllnnaaaGreat
open Go.RowKit
theorem box2b {w w' : World} {cs ds : Array Value} {t t' : TypeId} (hb : Below ((w.alloc (.cells cs t)).alloc (.cells ds t')).heap.size ((w.alloc (.cells cs t)).alloc (.cells ds t')) w') : Blk w' w.heap.size t cs ∧ Blk w' (w.heap.size + 1) t' ds := by
  refine ⟨Blk.below ((Blk.new _ _ _).alloc _) hb, Blk.below ?_ hb⟩
  have := Blk.new (w.alloc (.cells cs t)) t' ds
  simpa using this
theorem Below.alloc_ {w w1 : World} (h : Below w.heap.size w w1) (o : Obj) : Below w.heap.size w (w1.alloc o) := h.alloc h.size o
theorem Below.set_ {w w1 : World} {p : Addr} (h : Below w.heap.size w w1) (hp : w.heap.size ≤ p.block) (u : Value) : Below w.heap.size w (w1.setCell p u) := h.setCell hp u
theorem drew_size (w : World) : w.drew.heap.size = w.heap.size := rfl
theorem drew_cell (w : World) (a : Addr) : w.drew.cell? a = w.cell? a := rfl
theorem drew_frozen (w : World) (a : Addr) : w.drew.frozen? a = w.frozen? a := rfl
end Go.Proofs.YtljjbhihllnnaaaGreat

namespace Go.Proofs.YtljjbhihllnnaaaGreat

theorem ints_ext' {xs ys : List Int} (hl : xs.length = ys.length) (h : ∀ j, j < xs.length → gi xs j = gi ys j) : xs = ys := by
  apply List.ext_getElem hl
  intro i h1 h2
  have := h i h1
  rwa [gi_lt h1, gi_lt h2] at this

/-- lo ≤ n ≤ hi -/
def inB (n lo hi : Int) : Bool := decide (lo ≤ n) && decide (n ≤ hi)
theorem inB_iff {n lo hi : Int} : inB n lo hi = true ↔ lo ≤ n ∧ n ≤ hi := by simp [inB]
theorem inB_false {n lo hi : Int} : inB n lo hi = false ↔ n < lo ∨ hi < n := by
  rw [← Bool.not_eq_true, inB_iff]; omega
def hasB (xs : List Int) (n : Int) : Bool := xs.contains n
def allB (xs : List Int) (lo hi : Int) : Bool := xs.all fun n => inB n lo hi

theorem take_snoc' {α : Type} {xs : List α} {k : Nat} (h : k < xs.length) : xs.take (k + 1) = xs.take k ++ [xs[k]] := by
  rw [List.take_succ_eq_append_getElem h]
theorem take_gi {xs : List Int} {k : Nat} (h : k < xs.length) : xs.take (k + 1) = xs.take k ++ [gi xs k] := by
  rw [take_snoc' h, gi_lt h]
theorem hasB_take {xs : List Int} {k : Nat} {n : Int} (h : k < xs.length) : hasB (xs.take (k + 1)) n = (hasB (xs.take k) n || (gi xs k == n)) := by
  rw [take_gi h]; simp only [hasB, List.contains_eq_any_beq, List.any_append, List.any_cons, List.any_nil, Bool.or_false]
  congr 1
  rw [Bool.eq_iff_iff]; simp only [beq_iff_eq]; constructor <;> intro h <;> exact h.symm
theorem allB_take {xs : List Int} {k : Nat} {lo hi : Int} (h : k < xs.length) : allB (xs.take (k + 1)) lo hi = (allB (xs.take k) lo hi && inB (gi xs k) lo hi) := by
  rw [take_gi h]; simp [allB]
theorem hasB_mem {xs : List Int} {n : Int} : hasB xs n = true ↔ n ∈ xs := by simp [hasB]
theorem hasB_of_lt {xs : List Int} {n : Int} {k : Nat} (h : k < xs.length) (e : gi xs k = n) : hasB xs n = true := by
  rw [hasB_mem, ← e, gi_lt h]; exact List.getElem_mem h
theorem hasB_false_all {xs : List Int} {n : Int} : hasB xs n = false ↔ ∀ k, k < xs.length → gi xs k ≠ n := by
  rw [← Bool.not_eq_true, hasB_mem]
  constructor
  · intro h k hk e; exact h (by rw [← e, gi_lt hk]; exact List.getElem_mem hk)
  · intro h hm
    obtain ⟨k, hk, e⟩ := List.getElem_of_mem hm
    exact h k hk (by rw [gi_lt hk, e])
theorem allB_iff {xs : List Int} {lo hi : Int} : allB xs lo hi = true ↔ ∀ k, k < xs.length → inB (gi xs k) lo hi = true := by
  simp only [allB, List.all_eq_true]
  constructor
  · intro h k hk; rw [gi_lt hk]; exact h _ (List.getElem_mem hk)
  · intro h x hx
    obtain ⟨k, hk, rfl⟩ := List.getElem_of_mem hx
    have := h k hk; rwa [gi_lt hk] at this

/-- distinct numbers in a range, as the reference asks it -/
def idsUpto (xs : List Int) (k : Nat) : Prop := ∀ i, i < k → inB (gi xs i) 1 999999 = true ∧ hasB (xs.take i) (gi xs i) = false
def idsB (xs : List Int) (n : Int) : Bool := decide (∀ i, i < xs.length → inB (gi xs i) 1 999999 = true ∧ hasB (xs.take i) (gi xs i) = false) && (xs.length == 0 || (xs.length : Int) == n)

/-- the port j of node k, which leads to port p of node a, is joined with a port that is joined with it -/
def endOkW (N : Net) (k j : Nat) (a p : Int) : Prop :=
  inB a 0 ((N.ends.length : Int) - 1) = true ∧ inB p 0 (((gl N.ends a.toNat).length : Int) - 1) = true ∧ gp (gl N.ends a.toNat) p.toNat = ((k : Int), (j : Int))
def endOk (N : Net) (k j : Nat) : Prop := endOkW N k j (gp (gl N.ends k) j).1 (gp (gl N.ends k) j).2
def rowOk (N : Net) (k : Nat) : Prop := (gl N.ends k).length ≤ 6 ∧ ∀ j, j < (gl N.ends k).length → endOk N k j
def endsOk (N : Net) : Prop := ∀ k, k < N.ends.length → rowOk N k
open Classical in
/-- a valid network -/
noncomputable def goodB (N : Net) : Bool :=
  inB N.ends.length 1 40 && idsB N.ids N.ends.length && (N.inputs.length == N.ends.length) && allB N.inputs 0 9 && decide (endsOk N)
theorem goodB_iff {N : Net} : goodB N = true ↔ inB N.ends.length 1 40 = true ∧ idsB N.ids N.ends.length = true ∧ N.inputs.length = N.ends.length ∧ allB N.inputs 0 9 = true ∧ endsOk N := by
  simp [goodB, and_assoc]
theorem goodB_false {N : Net} (h : ¬ (inB N.ends.length 1 40 = true ∧ idsB N.ids N.ends.length = true ∧ N.inputs.length = N.ends.length ∧ allB N.inputs 0 9 = true ∧ endsOk N)) : goodB N = false := by
  rw [← Bool.not_eq_true, goodB_iff]; exact h

end Go.Proofs.YtljjbhihllnnaaaGreat

namespace Go.Proofs.YtljjbhihllnnaaaGreat

theorem gl_set {ess : List (List (Int × Int))} {i j : Nat} {es : List (Int × Int)} (hi : i < ess.length) : gl (ess.set i es) j = if j = i then es else gl ess j := by
  unfold gl
  simp only [List.getD_eq_getElem?_getD, List.getElem?_set]
  by_cases h : i = j
  · subst h; simp [hi]
  · have : ¬ j = i := fun e => h e.symm
    simp [h, this]
/-- the end at port i of node a -/
def pt (ess : List (List (Int × Int))) (a i : Nat) : Int × Int := gp (gl ess a) i
/-- the degree of node a -/
def dg (ess : List (List (Int × Int))) (a : Nat) : Nat := (gl ess a).length
/-- each port leads to a port that leads back -/
def Sym (ess : List (List (Int × Int))) : Prop := ∀ a i, a < ess.length → i < dg ess a → ∃ b j : Nat, pt ess a i = ((b : Int), (j : Int)) ∧ b < ess.length ∧ j < dg ess b ∧ pt ess b j = ((a : Int), (i : Int))

theorem dg_out {ess : List (List (Int × Int))} {a : Nat} (h : ¬ a < ess.length) : dg ess a = 0 := by
  unfold dg gl
  simp only [List.getD_eq_getElem?_getD]
  rw [List.getElem?_eq_none (by omega)]
  rfl
theorem gp_app {xs ys : List (Int × Int)} {i : Nat} : gp (xs ++ ys) i = if i < xs.length then gp xs i else gp ys (i - xs.length) := by
  unfold gp
  simp only [List.getD_eq_getElem?_getD]
  by_cases h : i < xs.length
  · rw [if_pos h, List.getElem?_append_left h]
  · rw [if_neg h, List.getElem?_append_right (by omega)]
theorem gp_zero (x : Int × Int) (l : List (Int × Int)) : gp (x :: l) 0 = x := rfl

theorem endsOk_iff {N : Net} : endsOk N ↔ (∀ k, k < N.ends.length → dg N.ends k ≤ 6) ∧ Sym N.ends := by
  constructor
  · intro h
    refine ⟨fun k hk => (h k hk).1, fun a i ha hi => ?_⟩
    obtain ⟨h1, h2, h3⟩ := (h a ha).2 i hi
    rw [inB_iff] at h1 h2
    refine ⟨(gp (gl N.ends a) i).1.toNat, (gp (gl N.ends a) i).2.toNat, ?_, by omega, by unfold dg; omega, h3⟩
    unfold pt
    ext <;> simp <;> omega
  · rintro ⟨h1, h2⟩ k hk
    refine ⟨h1 k hk, fun j hj => ?_⟩
    obtain ⟨b, i, e, hb, hi, e2⟩ := h2 k j hk hj
    unfold pt at e e2
    unfold dg at hi
    unfold endOk endOkW
    rw [e]
    simp only [Int.toNat_natCast]
    exact ⟨inB_iff.2 (by omega), inB_iff.2 (by omega), e2⟩

/-- n nodes without edges -/
def emptyN (n : Nat) : Net := ⟨List.replicate n [], [], List.replicate n 0⟩

theorem gl_replicate {n i : Nat} : gl (List.replicate n []) i = [] := by
  unfold gl
  simp only [List.getD_eq_getElem?_getD, List.getElem?_replicate]
  split <;> rfl

theorem Sym.empty (n : Nat) : Sym (List.replicate n []) := fun a i ha hi => by
  have : dg (List.replicate n []) a = 0 := by
    unfold dg gl
    simp only [List.getD_eq_getElem?_getD, List.getElem?_replicate]
    split <;> rfl
  omega

/-- a new port of v and a new port of x, joined -/
def joinE (ess : List (List (Int × Int))) (v x : Nat) : List (List (Int × Int)) :=
  let i := (gl ess v).length
  let j := (gl ess x).length + (if v = x then 1 else 0)
  let ess1 := ess.set v (gl ess v ++ [((x : Int), (j : Int))])
  ess1.set x (gl ess1 x ++ [((v : Int), (i : Int))])
def joinN (N : Net) (v x : Nat) : Net := { N with ends := joinE N.ends v x }


theorem joinE_len (ess : List (List (Int × Int))) (v x : Nat) : (joinE ess v x).length = ess.length := by simp [joinE]
theorem joinE_gl {ess : List (List (Int × Int))} {v x : Nat} (hv : v < ess.length) (hx : x < ess.length) (a : Nat) :
    gl (joinE ess v x) a = gl ess a ++ (if a = v then [((x : Int), ((dg ess x + (if v = x then 1 else 0) : Nat) : Int))] else []) ++ (if a = x then [((v : Int), (dg ess v : Int))] else []) := by
  unfold joinE
  simp only
  rw [gl_set (by simpa using hx)]
  by_cases h1 : a = x
  · subst h1
    rw [if_pos rfl, if_pos rfl, gl_set hv]
    by_cases h2 : a = v
    · subst h2; simp [dg]
    · rw [if_neg h2, if_neg h2]; simp [dg]
  · rw [if_neg h1, if_neg h1, gl_set hv]
    by_cases h2 : a = v
    · subst h2; simp [dg]
    · rw [if_neg h2, if_neg h2]; simp
theorem joinE_dg {ess : List (List (Int × Int))} {v x : Nat} (hv : v < ess.length) (hx : x < ess.length) (a : Nat) : dg (joinE ess v x) a = dg ess a + (if a = v then 1 else 0) + (if a = x then 1 else 0) := by
  unfold dg
  rw [joinE_gl hv hx]
  simp only [List.length_append]
  congr 1
  · congr 1; split <;> rfl
  · split <;> rfl
/-- an old port is as it was -/
theorem joinE_old {ess : List (List (Int × Int))} {v x : Nat} (hv : v < ess.length) (hx : x < ess.length) {a i : Nat} (hi : i < dg ess a) : pt (joinE ess v x) a i = pt ess a i := by
  unfold pt
  rw [joinE_gl hv hx, List.append_assoc, gp_app, if_pos (show i < (gl ess a).length from hi)]
/-- the two new ports -/
theorem joinE_new1 {ess : List (List (Int × Int))} {v x : Nat} (hv : v < ess.length) (hx : x < ess.length) : pt (joinE ess v x) v (dg ess v) = ((x : Int), ((dg ess x + (if v = x then 1 else 0) : Nat) : Int)) := by
  unfold pt
  rw [joinE_gl hv hx, List.append_assoc, gp_app, if_neg (by simp [dg]), if_pos rfl]
  simp [dg, gp]
theorem joinE_new2 {ess : List (List (Int × Int))} {v x : Nat} (hv : v < ess.length) (hx : x < ess.length) : pt (joinE ess v x) x (dg ess x + (if v = x then 1 else 0)) = ((v : Int), (dg ess v : Int)) := by
  unfold pt
  rw [joinE_gl hv hx, gp_app]
  by_cases h : v = x
  · subst h
    simp [dg, gp]
  · have h2 : ¬ x = v := fun e => h e.symm
    simp [dg, gp, h, h2]
theorem Sym.join {ess : List (List (Int × Int))} {v x : Nat} (h : Sym ess) (hv : v < ess.length) (hx : x < ess.length) : Sym (joinE ess v x) := by
  intro a i ha hi
  rw [joinE_len] at ha ⊢
  have hd := joinE_dg hv hx
  rw [hd a] at hi
  by_cases h0 : i < dg ess a
  · obtain ⟨b, j, e, hb, hj, e2⟩ := h a i ha h0
    refine ⟨b, j, by rw [joinE_old hv hx h0]; exact e, hb, by rw [hd b]; omega, by rw [joinE_old hv hx hj]; exact e2⟩
  · by_cases hvx : v = x
    · subst hvx
      by_cases hav : a = v
      · subst hav
        simp only [if_true] at hi
        by_cases h1 : i = dg ess a
        · subst h1
          have e1 := joinE_new1 hv hx
          have e2 := joinE_new2 hv hx
          simp only [if_true] at e1 e2
          exact ⟨a, dg ess a + 1, e1, ha, by rw [hd a]; simp, e2⟩
        · obtain rfl : i = dg ess a + 1 := by omega
          have e1 := joinE_new1 hv hx
          have e2 := joinE_new2 hv hx
          simp only [if_true] at e1 e2
          exact ⟨a, dg ess a, e2, ha, by rw [hd a]; simp; omega, e1⟩
      · simp only [hav, if_false] at hi; omega
    · have e1 := joinE_new1 hv hx
      have e2 := joinE_new2 hv hx
      simp only [hvx, if_false, Nat.add_zero] at e1 e2
      have hxv : ¬ x = v := fun e => hvx e.symm
      by_cases hav : a = v
      · subst hav
        simp only [if_true, hvx, if_false] at hi
        obtain rfl : i = dg ess a := by omega
        exact ⟨x, dg ess x, e1, hx, by rw [hd x]; simp [hxv], e2⟩
      · by_cases hax : a = x
        · subst hax
          simp only [hav, if_false, if_true] at hi
          obtain rfl : i = dg ess a := by omega
          exact ⟨v, dg ess v, e2, hv, by rw [hd v]; simp; omega, e1⟩
        · simp only [hav, hax, if_false] at hi; omega
end Go.Proofs.YtljjbhihllnnaaaGreat

namespace Go.Proofs.YtljjbhihllnnaaaGreat

/-- the node to which the port i of node w leads -/
def nodeAt (N : Net) (w : Nat) (i : Int) : Nat := (gp (gl N.ends w) i.toNat).1.toNat
/-- the parent of node w -/
def par (N : Net) (ps : List Int) (w : Nat) : Nat := nodeAt N w (gi ps w)
/-- k steps up -/
def up (N : Net) (ps : List Int) : Nat → Nat → Nat
  | 0, v => v
  | k + 1, v => par N ps (up N ps k v)

theorem good_len {N : Net} (h : goodB N = true) : 1 ≤ N.ends.length ∧ N.ends.length ≤ 40 := by
  have := inB_iff.1 (goodB_iff.1 h).1
  omega
theorem good_deg {N : Net} (h : goodB N = true) {k : Nat} (hk : k < N.ends.length) : (gl N.ends k).length ≤ 6 := ((goodB_iff.1 h).2.2.2.2 k hk).1
theorem good_node {N : Net} (h : goodB N = true) {k j : Nat} (hk : k < N.ends.length) (hj : j < (gl N.ends k).length) :
    0 ≤ (gp (gl N.ends k) j).1 ∧ (gp (gl N.ends k) j).1 < N.ends.length := by
  have := ((goodB_iff.1 h).2.2.2.2 k hk).2 j hj
  have := inB_iff.1 this.1
  omega

/-- node j is the root, or has a port to its parent -/
def nodeOk (N : Net) (ps : List Int) (r j : Nat) : Prop := (gi ps j = -1 → j = r) ∧ (gi ps j ≠ -1 → inB (gi ps j) 0 (((gl N.ends j).length : Int) - 1) = true)
/-- node v has the depth k -/
def depthIs (N : Net) (ps : List Int) (r v k : Nat) : Prop := k ≤ ps.length ∧ up N ps k v = r ∧ ∀ i, i < k → up N ps i v ≠ r
/-- a tree with the root r and the depths ds -/
def TreeAt (N : Net) (ps : List Int) (r : Nat) (ds : List Int) : Prop :=
  ps.length = N.ends.length ∧ r < ps.length ∧ gi ps r = -1 ∧ (∀ j, j < ps.length → nodeOk N ps r j) ∧ ds.length = ps.length ∧
    ∀ v, v < ps.length → ∃ k : Nat, gi ds v = k ∧ depthIs N ps r v k

theorem nodeAt_lt {N : Net} (h : goodB N = true) {w : Nat} {i : Int} (hw : w < N.ends.length) (hi : inB i 0 (((gl N.ends w).length : Int) - 1) = true) : nodeAt N w i < N.ends.length ∧ (gp (gl N.ends w) i.toNat).1 = (nodeAt N w i : Int) := by
  have := inB_iff.1 hi
  have := good_node h hw (j := i.toNat) (by omega)
  unfold nodeAt
  omega

theorem par_lt {N : Net} {ps : List Int} {r w : Nat} (h : goodB N = true) (hl : ps.length = N.ends.length) (hw : w < ps.length) (ho : nodeOk N ps r w) (hr : w ≠ r) :
    par N ps w < ps.length ∧ (gp (gl N.ends w) (gi ps w).toNat).1 = (par N ps w : Int) ∧ 0 ≤ gi ps w ∧ (gi ps w).toNat < (gl N.ends w).length := by
  have h1 : gi ps w ≠ -1 := fun e => hr (ho.1 e)
  have h2 := ho.2 h1
  have h3 := nodeAt_lt h (by omega) h2
  have h4 := inB_iff.1 h2
  unfold par
  omega

theorem up_lt {N : Net} {ps : List Int} {r v : Nat} (h : goodB N = true) (hl : ps.length = N.ends.length) (ho : ∀ j, j < ps.length → nodeOk N ps r j) (hv : v < ps.length) :
    ∀ k, (∀ i, i < k → up N ps i v ≠ r) → up N ps k v < ps.length
  | 0, _ => hv
  | k + 1, hi => by
    have h1 := up_lt h hl ho hv k fun i hk => hi i (by omega)
    exact (par_lt h hl h1 (ho _ h1) (hi k (by omega))).1

theorem depthIs_unique {N : Net} {ps : List Int} {r v k k' : Nat} (h : depthIs N ps r v k) (h' : depthIs N ps r v k') : k = k' := by
  rcases Nat.lt_trichotomy k k' with h1 | h1 | h1
  · exact absurd h.2.1 (h'.2.2 k h1)
  · exact h1
  · exact absurd h'.2.1 (h.2.2 k' h1)

theorem TreeAt.unique {N : Net} {ps : List Int} {r r' : Nat} {ds ds' : List Int} (h : TreeAt N ps r ds) (h' : TreeAt N ps r' ds') : r = r' ∧ ds = ds' := by
  have hr : r = r' := by
    have := (h'.2.2.2.1 r h.2.1).1 h.2.2.1
    exact this
  subst hr
  refine ⟨rfl, ints_ext' (h.2.2.2.2.1.trans h'.2.2.2.2.1.symm) fun j hj => ?_⟩
  have hj' : j < ps.length := by rw [← h.2.2.2.2.1]; exact hj
  obtain ⟨k, e, hk⟩ := h.2.2.2.2.2 j hj'
  obtain ⟨k', e', hk'⟩ := h'.2.2.2.2.2 j hj'
  rw [e, e', depthIs_unique hk hk']

theorem up_succ' (N : Net) (ps : List Int) (k v : Nat) : up N ps (k + 1) v = up N ps k (par N ps v) := by
  induction k with
  | zero => rfl
  | succ k ih => rw [up, ih]; rfl

/-- a parent is one less deep -/
theorem TreeAt.par {N : Net} {ps : List Int} {r : Nat} {ds : List Int} (h : TreeAt N ps r ds) (hg : goodB N = true) {v : Nat} (hv : v < ps.length) (hr : v ≠ r) :
    par N ps v < ps.length ∧ gi ds v = gi ds (par N ps v) + 1 ∧ 0 ≤ gi ds (par N ps v) := by
  have hp := par_lt hg h.1 hv (h.2.2.2.1 v hv) hr
  obtain ⟨k, e, hk⟩ := h.2.2.2.2.2 v hv
  obtain ⟨m, e', hm⟩ := h.2.2.2.2.2 _ hp.1
  rcases k with _ | k
  · exact absurd hk.2.1 hr
  · have : depthIs N ps r (Proofs.YtljjbhihllnnaaaGreat.par N ps v) k := by
      refine ⟨by have := hk.1; omega, ?_, fun i hi => ?_⟩
      · rw [← up_succ']; exact hk.2.1
      · rw [← up_succ']; exact hk.2.2 (i + 1) (by omega)
    have := depthIs_unique hm this
    omega
theorem TreeAt.zero {N : Net} {ps : List Int} {r : Nat} {ds : List Int} (h : TreeAt N ps r ds) {v : Nat} (hv : v < ps.length) : (gi ds v = 0 ↔ v = r) ∧ 0 ≤ gi ds v ∧ gi ds v ≤ ps.length := by
  obtain ⟨k, e, hk⟩ := h.2.2.2.2.2 v hv
  refine ⟨⟨fun h0 => ?_, fun h0 => ?_⟩, by omega, by have := hk.1; omega⟩
  · obtain rfl : k = 0 := by omega
    exact hk.2.1
  · subst h0
    rcases k with _ | k
    · omega
    · exact absurd rfl (hk.2.2 0 (by omega))
end Go.Proofs.YtljjbhihllnnaaaGreat

namespace Go.Proofs.YtljjbhihllnnaaaGreat

/-- 0, 1, .. -/
def upTo (n : Nat) : List Int := (List.range n).map fun (i : Nat) => (i : Int)
theorem upTo_length (n : Nat) : (upTo n).length = n := by simp [upTo]
theorem upTo_get {n j : Nat} (h : j < n) : gi (upTo n) j = (j : Int) := by simp [upTo, gi, h]
theorem upTo_mem {n : Nat} {x : Int} : x ∈ upTo n ↔ 0 ≤ x ∧ x < n := by
  unfold upTo
  rw [List.mem_map]
  constructor
  · rintro ⟨i, hi, rfl⟩; rw [List.mem_range] at hi; omega
  · rintro ⟨h1, h2⟩; exact ⟨x.toNat, by rw [List.mem_range]; omega, by omega⟩
theorem upTo_nodup (n : Nat) : (upTo n).Nodup := by
  unfold upTo
  rw [List.Nodup, List.pairwise_map]
  exact List.nodup_range.imp fun h e => h (by omega)

end Go.Proofs.YtljjbhihllnnaaaGreat

namespace Go.Proofs.YtljjbhihllnnaaaGreat

theorem upTo_succ' (n : Nat) : upTo (n + 1) = upTo n ++ [(n : Int)] := by
  simp [upTo, List.range_succ]

theorem nodup_short : ∀ (n : Nat) (xs : List Int), xs.Nodup → (∀ x ∈ xs, 0 ≤ x ∧ x < n) → xs.length ≤ n
  | 0, xs, _, h => by
    rcases xs with _ | ⟨x, xs⟩
    · simp
    · have := h x (by simp); omega
  | n + 1, xs, hd, h => by
    have h1 := nodup_short n (xs.erase (n : Int)) (hd.erase _) (fun x hx => by
      have h2 := (List.Nodup.mem_erase_iff hd).1 hx
      have h3 := h x h2.2
      have h4 : x ≠ (n : Int) := h2.1
      omega)
    have h2 := List.length_erase (a := (n : Int)) (l := xs)
    split at h2 <;> omega

theorem nodup_perm : ∀ (n : Nat) (xs : List Int), xs.Nodup → (∀ x ∈ xs, 0 ≤ x ∧ x < n) → xs.length = n → xs.Perm (upTo n)
  | 0, xs, _, _, hl => by
    obtain rfl := List.eq_nil_of_length_eq_zero hl
    simp [upTo]
  | n + 1, xs, hd, h, hl => by
    by_cases hm : (n : Int) ∈ xs
    · have h1 := nodup_perm n (xs.erase (n : Int)) (hd.erase _) (fun x hx => by
        have h2 := (List.Nodup.mem_erase_iff hd).1 hx
        have h3 := h x h2.2
        have h4 : x ≠ (n : Int) := h2.1
        omega) (by rw [List.length_erase_of_mem hm]; omega)
      rw [upTo_succ']
      exact ((List.perm_cons_erase hm).trans (h1.cons _)).trans (List.perm_append_singleton _ _).symm
    · have := nodup_short n xs hd (fun x hx => by
        have h3 := h x hx
        have h4 : x ≠ (n : Int) := fun e => hm (e ▸ hx)
        omega)
      omega
end Go.Proofs.YtljjbhihllnnaaaGreat

namespace Go.Proofs.YtljjbhihllnnaaaGreat

/-- a port that leads to itself -/
def stubE (ess : List (List (Int × Int))) (v : Nat) : List (List (Int × Int)) := ess.set v (gl ess v ++ [((v : Int), (dg ess v : Int))])
theorem stubE_len (ess : List (List (Int × Int))) (v : Nat) : (stubE ess v).length = ess.length := by simp [stubE]
theorem stubE_dg {ess : List (List (Int × Int))} {v : Nat} (hv : v < ess.length) (a : Nat) : dg (stubE ess v) a = dg ess a + (if a = v then 1 else 0) := by
  unfold dg stubE
  rw [gl_set hv]
  by_cases h : a = v
  · subst h; simp
  · simp [h]
theorem Sym.stub {ess : List (List (Int × Int))} {v : Nat} (h : Sym ess) (hv : v < ess.length) : Sym (stubE ess v) := by
  have hd := stubE_dg hv
  have old : ∀ {a i}, i < dg ess a → pt (stubE ess v) a i = pt ess a i := fun {a i} hi => by
    unfold pt stubE
    rw [gl_set hv]
    by_cases h : a = v
    · subst h; rw [if_pos rfl, gp_app, if_pos (show i < (gl ess a).length from hi)]
    · rw [if_neg h]
  intro a i ha hi
  rw [stubE_len] at ha ⊢
  rw [hd a] at hi
  by_cases h0 : i < dg ess a
  · obtain ⟨b, j, e, hb, hj, e2⟩ := h a i ha h0
    exact ⟨b, j, by rw [old h0]; exact e, hb, by rw [hd b]; omega, by rw [old hj]; exact e2⟩
  · by_cases hav : a = v
    · subst hav
      simp only [if_true] at hi
      obtain rfl : i = dg ess a := by omega
      have e : pt (stubE ess a) a (dg ess a) = ((a : Int), (dg ess a : Int)) := by
        unfold pt stubE
        rw [gl_set hv, if_pos rfl, gp_app, if_neg (by simp [dg])]
        simp [dg, gp]
      exact ⟨a, dg ess a, e, ha, by rw [hd a]; simp, e⟩
    · simp only [hav, if_false] at hi; omega

/-- two lists of nodes beside each other -/
def shiftE (n : Nat) (es : List (Int × Int)) : List (Int × Int) := es.map fun e => (e.1 + n, e.2)
def unionE (e1 e2 : List (List (Int × Int))) : List (List (Int × Int)) := e1 ++ e2.map (shiftE e1.length)
theorem unionE_len (e1 e2 : List (List (Int × Int))) : (unionE e1 e2).length = e1.length + e2.length := by simp [unionE]
theorem unionE_gl1 {e1 e2 : List (List (Int × Int))} {a : Nat} (h : a < e1.length) : gl (unionE e1 e2) a = gl e1 a := by
  unfold gl unionE
  simp only [List.getD_eq_getElem?_getD]
  rw [List.getElem?_append_left h]
theorem unionE_gl2 {e1 e2 : List (List (Int × Int))} {a : Nat} (h : a < e2.length) : gl (unionE e1 e2) (e1.length + a) = shiftE e1.length (gl e2 a) := by
  unfold gl unionE
  simp only [List.getD_eq_getElem?_getD]
  rw [List.getElem?_append_right (by omega)]
  simp [h]
theorem gp_shift {n : Nat} {es : List (Int × Int)} {i : Nat} (h : i < es.length) : gp (shiftE n es) i = ((gp es i).1 + n, (gp es i).2) := by
  unfold gp shiftE
  simp [h]
theorem Sym.union {e1 e2 : List (List (Int × Int))} (h1 : Sym e1) (h2 : Sym e2) : Sym (unionE e1 e2) := by
  intro a i ha hi
  rw [unionE_len] at ha ⊢
  by_cases hl : a < e1.length
  · have hi' : i < dg e1 a := by unfold dg at hi ⊢; rwa [unionE_gl1 hl] at hi
    obtain ⟨b, j, e, hb, hj, e2'⟩ := h1 a i hl hi'
    refine ⟨b, j, ?_, by omega, ?_, ?_⟩
    · unfold pt at e ⊢; rw [unionE_gl1 hl]; exact e
    · unfold dg at hj ⊢; rw [unionE_gl1 hb]; exact hj
    · unfold pt at e2' ⊢; rw [unionE_gl1 hb]; exact e2'
  · obtain ⟨a', rfl⟩ : ∃ a', a = e1.length + a' := ⟨a - e1.length, by omega⟩
    have ha' : a' < e2.length := by omega
    have hi' : i < dg e2 a' := by unfold dg at hi ⊢; rw [unionE_gl2 ha'] at hi; simpa [shiftE] using hi
    obtain ⟨b, j, e, hb, hj, e2'⟩ := h2 a' i ha' hi'
    unfold pt at e e2'
    refine ⟨e1.length + b, j, ?_, by omega, ?_, ?_⟩
    · unfold pt
      rw [unionE_gl2 ha', gp_shift hi', e]
      ext <;> simp; omega
    · unfold dg at hj ⊢; rw [unionE_gl2 hb]; simpa [shiftE] using hj
    · unfold pt
      rw [unionE_gl2 hb, gp_shift hj, e2']
      ext <;> simp; omega

/-- the new number of a port -/
def piN (π : List Int) (v a i : Nat) : Nat := if a = v then (gi π i).toNat else i
/-- a port of v gets its new number -/
def phiE (π : List Int) (v : Nat) (e : Int × Int) : Int × Int := if e.1 = v then (e.1, gi π e.2.toNat) else e
/-- the ports of v permuted -/
def portsE (ess : List (List (Int × Int))) (v : Nat) (π : List Int) : List (List (Int × Int)) :=
  (List.range ess.length).map fun a => if a = v then (List.range (dg ess v)).map fun (i : Nat) => phiE π v (pt ess v (π.idxOf (i : Int))) else (gl ess a).map (phiE π v)

theorem perm_at {π : List Int} {d : Nat} (hp : π.Perm (upTo d)) {i : Nat} (hi : i < d) : ∃ k : Nat, gi π i = k ∧ k < d := by
  have hl : π.length = d := by rw [hp.length_eq, upTo_length]
  have hm : gi π i ∈ upTo d := hp.mem_iff.1 (by rw [gi_lt (by omega)]; exact List.getElem_mem _)
  obtain ⟨h1, h2⟩ := upTo_mem.1 hm
  exact ⟨(gi π i).toNat, by omega, by omega⟩
theorem perm_inv {π : List Int} {d : Nat} (hp : π.Perm (upTo d)) {k : Nat} (hk : k < d) : π.idxOf (k : Int) < d ∧ gi π (π.idxOf (k : Int)) = k := by
  have hl : π.length = d := by rw [hp.length_eq, upTo_length]
  have hm : (k : Int) ∈ π := hp.mem_iff.2 (upTo_mem.2 (by omega))
  have h1 := List.idxOf_lt_length_iff.2 hm
  exact ⟨by omega, by rw [gi_lt h1]; exact List.getElem_idxOf h1⟩
theorem perm_inj {π : List Int} {d : Nat} (hp : π.Perm (upTo d)) {i j : Nat} (hi : i < d) (hj : j < d) (e : gi π i = gi π j) : i = j := by
  have hl : π.length = d := by rw [hp.length_eq, upTo_length]
  have hn : π.Nodup := hp.nodup_iff.2 (upTo_nodup d)
  rw [gi_lt (by omega), gi_lt (by omega)] at e
  exact (List.getElem_inj hn).1 e

theorem portsE_len (ess : List (List (Int × Int))) (v : Nat) (π : List Int) : (portsE ess v π).length = ess.length := by simp [portsE]
theorem portsE_gl {ess : List (List (Int × Int))} {v : Nat} {π : List Int} {a : Nat} (ha : a < ess.length) :
    gl (portsE ess v π) a = if a = v then (List.range (dg ess v)).map fun (i : Nat) => phiE π v (pt ess v (π.idxOf (i : Int))) else (gl ess a).map (phiE π v) := by
  have h1 : a < (portsE ess v π).length := by rw [portsE_len]; exact ha
  rw [gl_lt h1]
  simp [portsE]
theorem portsE_dg {ess : List (List (Int × Int))} {v : Nat} {π : List Int} (a : Nat) : dg (portsE ess v π) a = dg ess a := by
  by_cases ha : a < ess.length
  · unfold dg
    rw [portsE_gl ha]
    by_cases h : a = v
    · subst h; simp [dg]
    · simp [h]
  · rw [dg_out ha, dg_out (by rw [portsE_len]; exact ha)]
/-- what a port has become, at its new number -/
theorem portsE_at {ess : List (List (Int × Int))} {v : Nat} {π : List Int} (hp : π.Perm (upTo (dg ess v))) {a i : Nat} (ha : a < ess.length) (hi : i < dg ess a) : piN π v a i < dg ess a ∧ pt (portsE ess v π) a (piN π v a i) = phiE π v (pt ess a i) := by
  unfold piN
  by_cases h : a = v
  · subst h
    obtain ⟨k, hk, hkd⟩ := perm_at hp hi
    rw [if_pos rfl, hk, Int.toNat_natCast]
    refine ⟨hkd, ?_⟩
    obtain ⟨h1, h2⟩ := perm_inv hp hkd
    have h3 : π.idxOf (k : Int) = i := perm_inj hp h1 hi (by rw [h2, hk])
    unfold pt at *
    rw [portsE_gl ha, if_pos rfl]
    rw [gp_lt (by simpa using hkd)]
    simp [h3, pt]
  · rw [if_neg h]
    refine ⟨hi, ?_⟩
    unfold pt
    have hi2 : i < (gl ess a).length := hi
    rw [portsE_gl ha, if_neg h, gp_lt (by simpa using hi2), gp_lt hi2, List.getElem_map]
theorem piN_surj {ess : List (List (Int × Int))} {v : Nat} {π : List Int} (hp : π.Perm (upTo (dg ess v))) {a i : Nat} (hi : i < dg ess a) : ∃ j, j < dg ess a ∧ piN π v a j = i := by
  by_cases h : a = v
  · subst h
    obtain ⟨h1, h2⟩ := perm_inv hp hi
    exact ⟨_, h1, by unfold piN; rw [if_pos rfl, h2, Int.toNat_natCast]⟩
  · exact ⟨i, hi, by unfold piN; rw [if_neg h]⟩
theorem phiE_eq {ess : List (List (Int × Int))} {π : List Int} {v b j : Nat} (hp : π.Perm (upTo (dg ess v))) (hj : j < dg ess b) : phiE π v ((b : Int), (j : Int)) = ((b : Int), (piN π v b j : Int)) := by
  unfold phiE piN
  by_cases h : b = v
  · subst h
    obtain ⟨k, hk, _⟩ := perm_at hp hj
    simp [hk]
  · have h2 : ¬ ((b : Int) = (v : Int)) := by omega
    simp [h, h2]
theorem Sym.ports {ess : List (List (Int × Int))} {v : Nat} {π : List Int} (h : Sym ess) (hp : π.Perm (upTo (dg ess v))) : Sym (portsE ess v π) := by
  intro a i' ha hi'
  rw [portsE_len] at ha ⊢
  rw [portsE_dg] at hi'
  obtain ⟨i, hi, rfl⟩ := piN_surj hp hi'
  obtain ⟨b, j, e, hb, hj, e2⟩ := h a i ha hi
  refine ⟨b, piN π v b j, ?_, hb, by rw [portsE_dg]; exact (portsE_at hp hb hj).1, ?_⟩
  · rw [(portsE_at hp ha hi).2, e, phiE_eq hp hj]
  · rw [(portsE_at hp hb hj).2, e2, phiE_eq hp hi]
end Go.Proofs.YtljjbhihllnnaaaGreat

namespace Go.Proofs.YtljjbhihllnnaaaGreat

/-- a network whose lists are not long -/
def Small (N : Net) : Prop := N.ends.length ≤ 262144 ∧ (∀ i, i < N.ends.length → (gl N.ends i).length ≤ 262144) ∧ N.ids.length ≤ 262144 ∧ N.inputs.length ≤ 262144

/-- the ports of a node permuted -/
def portsN (N : Net) (v : Nat) (π : List Int) : Net := { N with ends := portsE N.ends v π }
/-- a stub more -/
def stubN (N : Net) (v : Nat) : Net := { N with ends := stubE N.ends v }
/-- both networks -/
def unionN (M N : Net) : Net := ⟨unionE M.ends N.ends, M.ids ++ N.ids, M.inputs ++ N.inputs⟩

/-- the same nodes and degrees -/
structure Alike (N N' : Net) : Prop where
  len : N'.ends.length = N.ends.length
  deg : ∀ a, dg N'.ends a = dg N.ends a
  sym : Sym N'.ends
  ids : N'.ids = N.ids
  ins : N'.inputs.length = N.inputs.length
theorem Alike.small {N N' : Net} (h : Alike N N') (hs : Small N) : Small N' := by
  refine ⟨by rw [h.len]; exact hs.1, fun i hi => ?_, by rw [h.ids]; exact hs.2.2.1, by rw [h.ins]; exact hs.2.2.2⟩
  have := h.deg i
  unfold dg at this
  rw [this]
  exact hs.2.1 i (by rw [← h.len]; exact hi)
theorem Alike.ports {N N' : Net} (h : Alike N N') {v : Nat} {π : List Int} (hp : π.Perm (upTo (dg N'.ends v))) : Alike N (portsN N' v π) :=
  ⟨(portsE_len _ _ _).trans h.len, fun a => (portsE_dg a).trans (h.deg a), h.sym.ports hp, h.ids, h.ins⟩
end Go.Proofs.YtljjbhihllnnaaaGreat

namespace Go.Proofs.YtljjbhihllnnaaaGreat

/-- a network that is drawn: at most m nodes, degrees at most d, no numbers yet -/
structure Drawn (m d : Nat) (N : Net) : Prop where
  pos : 1 ≤ N.ends.length
  len : N.ends.length ≤ m
  sym : Sym N.ends
  deg : ∀ a, dg N.ends a ≤ d
  ids : N.ids.length ≤ m
  ins : N.inputs.length = N.ends.length
theorem Drawn.mono {m d m' d' : Nat} {N : Net} (h : Drawn m d N) (hm : m ≤ m') (hd : d ≤ d') : Drawn m' d' N :=
  ⟨h.pos, by have := h.len; omega, h.sym, fun a => by have := h.deg a; omega, by have := h.ids; omega, h.ins⟩
theorem Drawn.small {m d : Nat} {N : Net} (h : Drawn m d N) (hm : m ≤ 262144) (hd : d ≤ 262144) : Small N :=
  ⟨by have := h.len; omega, fun i _ => by have := h.deg i; unfold dg at this; omega, by have := h.ids; omega, by have := h.ins; have := h.len; omega⟩
theorem Drawn.empty {n m : Nat} (h1 : 1 ≤ n) (h2 : n ≤ m) : Drawn m 0 (emptyN n) :=
  ⟨by simp [emptyN]; exact h1, by simp [emptyN]; exact h2, Sym.empty n, fun a => by unfold dg emptyN; simp only; rw [gl_replicate]; simp, by simp [emptyN], by simp [emptyN]⟩
theorem Drawn.join {m d : Nat} {N : Net} (h : Drawn m d N) {v x : Nat} (hv : v < N.ends.length) (hx : x < N.ends.length) : Drawn m (d + 2) (joinN N v x) :=
  ⟨by have := h.pos; simpa [joinN, joinE_len] using this, by have := h.len; simpa [joinN, joinE_len] using this, h.sym.join hv hx, fun a => by
    have h1 := joinE_dg hv hx a
    have := h.deg a
    show dg (joinE N.ends v x) a ≤ _
    rw [h1]
    split <;> split <;> omega, h.ids, by have := h.ins; simpa [joinN, joinE_len] using this⟩
theorem Drawn.stub {m d : Nat} {N : Net} (h : Drawn m d N) {v : Nat} (hv : v < N.ends.length) : Drawn m (d + 2) (stubN N v) :=
  ⟨by have := h.pos; simpa [stubN, stubE_len] using this, by have := h.len; simpa [stubN, stubE_len] using this, h.sym.stub hv, fun a => by
    have h1 := stubE_dg hv a
    have := h.deg a
    show dg (stubE N.ends v) a ≤ _
    rw [h1]
    split <;> omega, h.ids, by have := h.ins; simpa [stubN, stubE_len] using this⟩
theorem Drawn.alike {m d : Nat} {N N' : Net} (h : Drawn m d N) (ha : Alike N N') : Drawn m d N' :=
  ⟨by rw [ha.len]; exact h.pos, by rw [ha.len]; exact h.len, ha.sym, fun a => by rw [ha.deg]; exact h.deg a, by rw [ha.ids]; exact h.ids, by rw [ha.ins, ha.len]; exact h.ins⟩
theorem Drawn.union {m m' d d' : Nat} {M N : Net} (h : Drawn m d M) (k : Drawn m' d' N) : Drawn (m + m') (max d d') (unionN M N) := by
  refine ⟨?_, ?_, h.sym.union k.sym, fun a => ?_, ?_, ?_⟩
  · have := h.pos; simp only [unionN, unionE_len]; omega
  · have := h.len; have := k.len; simp only [unionN, unionE_len]; omega
  · show dg (unionE M.ends N.ends) a ≤ _
    have h1 := h.deg a
    unfold dg at *
    rcases Nat.lt_or_ge a M.ends.length with ha | ha
    · rw [unionE_gl1 ha]; omega
    · rcases Nat.lt_or_ge (a - M.ends.length) N.ends.length with hb | hb
      · have e := unionE_gl2 (e1 := M.ends) hb
        rw [show M.ends.length + (a - M.ends.length) = a by omega] at e
        rw [e]
        have := k.deg (a - M.ends.length)
        unfold dg at this
        unfold shiftE
        rw [List.length_map]
        omega
      · have : ¬ a < (unionE M.ends N.ends).length := by rw [unionE_len]; omega
        have := dg_out this
        unfold dg at this
        omega
  · have := h.ids; have := k.ids; simp only [unionN, List.length_append]; omega
  · have := h.ins; have := k.ins; simp only [unionN, unionE_len, List.length_append]; omega

/-- a tree under way: nodes from v on are free, node v-1 has one edge at the most -/
structure Grow (m v : Nat) (N : Net) : Prop where
  d : Drawn m (2 * v) N
  free : ∀ a, v ≤ a → dg N.ends a = 0
  last : dg N.ends (v - 1) ≤ 1
theorem Grow.start {n m : Nat} (h1 : 1 ≤ n) (h2 : n ≤ m) : Grow m 1 (emptyN n) := by
  have hz : ∀ a, dg (emptyN n).ends a = 0 := fun a => by unfold dg emptyN; simp only; rw [gl_replicate]; rfl
  exact ⟨(Drawn.empty h1 h2).mono (Nat.le_refl _) (by omega), fun a _ => hz a, by rw [hz]; omega⟩
theorem Grow.next {m v x : Nat} {N : Net} (h : Grow m v N) (hv : v < N.ends.length) (hx : x < v) : Grow m (v + 1) (joinN N x v) := by
  have hx' : x < N.ends.length := by omega
  refine ⟨(h.d.join hx' hv).mono (Nat.le_refl _) (by omega), fun a ha => ?_, ?_⟩
  · show dg (joinE N.ends x v) a = 0
    rw [joinE_dg hx' hv a, h.free a (by omega), if_neg (by omega), if_neg (by omega)]
  · show dg (joinE N.ends x v) (v + 1 - 1) ≤ 1
    rw [Nat.add_sub_cancel, joinE_dg hx' hv v, h.free v (Nat.le_refl _), if_neg (by omega), if_pos rfl]
    omega
end Go.Proofs.YtljjbhihllnnaaaGreat

namespace Go.Proofs.YtljjbhihllnnaaaGreat

theorem ess_ext {e f : List (List (Int × Int))} (hl : e.length = f.length) (hd : ∀ a, a < e.length → dg e a = dg f a) (hp : ∀ a i, a < e.length → i < dg e a → pt e a i = pt f a i) : e = f := by
  apply List.ext_getElem hl
  intro a h1 h2
  have d1 := hd a h1
  unfold dg at d1
  rw [gl_lt h1, gl_lt h2] at d1
  apply List.ext_getElem d1
  intro i h3 h4
  have := hp a i h1 (by unfold dg; rw [gl_lt h1]; exact h3)
  unfold pt at this
  rw [gl_lt h1, gl_lt h2, gp_lt h3, gp_lt h4] at this
  exact this

/-- one port replaced -/
def set2 (ess : List (List (Int × Int))) (a j : Nat) (p : Int × Int) : List (List (Int × Int)) := ess.set a ((gl ess a).set j p)
theorem set2_len (ess : List (List (Int × Int))) (a j : Nat) (p : Int × Int) : (set2 ess a j p).length = ess.length := by simp [set2]
theorem set2_dg {ess : List (List (Int × Int))} {a j : Nat} {p : Int × Int} (ha : a < ess.length) (b : Nat) : dg (set2 ess a j p) b = dg ess b := by
  unfold dg set2
  rw [gl_set ha]
  by_cases h : b = a
  · subst h; simp
  · simp [h]
theorem set2_pt {ess : List (List (Int × Int))} {a j : Nat} {p : Int × Int} (ha : a < ess.length) (hj : j < dg ess a) (b i : Nat) : pt (set2 ess a j p) b i = if b = a ∧ i = j then p else pt ess b i := by
  unfold pt set2
  rw [gl_set ha]
  by_cases h : b = a
  · subst h
    rw [if_pos rfl]
    unfold gp
    simp only [List.getD_eq_getElem?_getD, List.getElem?_set]
    by_cases h2 : i = j
    · subst h2
      have hj' : i < (gl ess b).length := hj
      simp [hj']
    · have h3 : ¬ j = i := fun e => h2 e.symm
      simp [h2, h3]
  · simp [h]

def portsStep (ess0 : List (List (Int × Int))) (v : Nat) (π : List Int) (ess : List (List (Int × Int))) (i : Nat) : List (List (Int × Int)) :=
  let e := pt ess0 v i
  if e.1 = v then set2 ess v (gi π i).toNat (e.1, gi π e.2.toNat) else set2 (set2 ess e.1.toNat e.2.toNat ((v : Int), gi π i)) v (gi π i).toNat e
def portsK (ess0 : List (List (Int × Int))) (v : Nat) (π : List Int) : Nat → List (List (Int × Int))
  | 0 => ess0
  | k + 1 => portsStep ess0 v π (portsK ess0 v π k) k

theorem portsK_inv {ess : List (List (Int × Int))} {v : Nat} {π : List Int} (h : Sym ess) (hv : v < ess.length) (hp : π.Perm (upTo (dg ess v))) : ∀ k, k ≤ dg ess v →
    (portsK ess v π k).length = ess.length ∧ (∀ a, dg (portsK ess v π k) a = dg ess a) ∧
    (∀ i, i < dg ess v → (i < k → pt (portsK ess v π k) v (piN π v v i) = phiE π v (pt ess v i))) ∧
    (∀ a j, a < ess.length → a ≠ v → j < dg ess a → pt (portsK ess v π k) a j = if (pt ess a j).1 = v ∧ (pt ess a j).2 < k then phiE π v (pt ess a j) else pt ess a j)
  | 0, _ => ⟨rfl, fun _ => rfl, fun _ _ h => absurd h (Nat.not_lt_zero _), fun a j ha hne hj => by
      obtain ⟨b, i, e, _⟩ := h a j ha hj
      show pt ess a j = _
      rw [if_neg]
      rw [e]; simp⟩
  | k + 1, hk => by
    obtain ⟨h1, h2, h3, h4⟩ := portsK_inv h hv hp k (by omega)
    have hkd : k < dg ess v := by omega
    obtain ⟨b, q, e, hb, hq, e2⟩ := h v k hv hkd
    obtain ⟨m, hm, hmd⟩ := perm_at hp hkd
    have hpk : piN π v v k = m := by unfold piN; rw [if_pos rfl, hm, Int.toNat_natCast]
    have hv1 : v < (portsK ess v π k).length := by rw [h1]; exact hv
    have hm1 : m < dg (portsK ess v π k) v := by rw [h2]; exact hmd
    show (portsStep ess v π (portsK ess v π k) k).length = _ ∧ (∀ a, dg (portsStep ess v π (portsK ess v π k) k) a = _) ∧ (∀ i, _ → (_ → pt (portsStep ess v π (portsK ess v π k) k) v _ = _)) ∧ (∀ a j, _ → _ → _ → pt (portsStep ess v π (portsK ess v π k) k) a j = _)
    generalize portsK ess v π k = E at *
    unfold portsStep
    simp only
    rw [e, hm]
    simp only [Int.toNat_natCast]
    by_cases hbv : b = v
    · subst hbv
      obtain ⟨r, hr, hrd⟩ := perm_at hp hq
      simp only [if_true]
      refine ⟨by rw [set2_len, h1], fun a => by rw [set2_dg hv1, h2], fun i hi hik => ?_, fun a j ha hne hj => ?_⟩
      · rw [set2_pt hv1 hm1]
        by_cases hik2 : i = k
        · subst hik2
          rw [if_pos ⟨rfl, hpk⟩, e, phiE_eq hp hq, hr]
          unfold piN
          rw [if_pos rfl, hr, Int.toNat_natCast]
        · rw [if_neg]
          · exact h3 i hi (by omega)
          · rintro ⟨_, e3⟩
            have : piN π b b i = piN π b b k := e3.trans hpk.symm
            unfold piN at this
            simp only [if_true] at this
            obtain ⟨m', hm', _⟩ := perm_at hp hi
            exact hik2 (perm_inj hp hi hkd (by omega))
      · rw [set2_pt hv1 hm1, if_neg (fun x => hne x.1), h4 a j ha hne hj]
        obtain ⟨c, p, e3, hc, hpp, e4⟩ := h a j ha hj
        rw [e3]
        by_cases hcb : c = b
        · subst hcb
          have hpk2 : p ≠ k := fun e5 => by
            subst e5
            rw [e4] at e
            have := congrArg Prod.fst e
            simp at this
            omega
          by_cases hlt : p < k
          · rw [if_pos (by simp; omega), if_pos (by simp; omega)]
          · rw [if_neg (by simp; omega), if_neg (by simp; omega)]
        · rw [if_neg (by simp; omega), if_neg (by simp; omega)]
    · have hbv' : ¬ ((b : Int) = (v : Int)) := by omega
      rw [if_neg hbv']
      have hb1 : b < E.length := by rw [h1]; exact hb
      have hq1 : q < dg E b := by rw [h2]; exact hq
      have hv2 : v < (set2 E b q ((v : Int), (m : Int))).length := by rw [set2_len]; exact hv1
      have hm2 : m < dg (set2 E b q ((v : Int), (m : Int))) v := by rw [set2_dg hb1]; exact hm1
      refine ⟨by rw [set2_len, set2_len, h1], fun a => by rw [set2_dg hv2, set2_dg hb1, h2], fun i hi hik => ?_, fun a j ha hne hj => ?_⟩
      · rw [set2_pt hv2 hm2]
        by_cases hik2 : i = k
        · subst hik2
          rw [if_pos ⟨rfl, hpk⟩, e]
          unfold phiE
          rw [if_neg hbv']
        · rw [if_neg, set2_pt hb1 hq1, if_neg (fun x => hbv x.1.symm)]
          · exact h3 i hi (by omega)
          · rintro ⟨_, e3⟩
            have : piN π v v i = piN π v v k := e3.trans hpk.symm
            unfold piN at this
            simp only [if_true] at this
            obtain ⟨m', hm', _⟩ := perm_at hp hi
            exact hik2 (perm_inj hp hi hkd (by omega))
      · rw [set2_pt hv2 hm2, if_neg (fun x => hne x.1), set2_pt hb1 hq1]
        by_cases haj : a = b ∧ j = q
        · obtain ⟨rfl, rfl⟩ := haj
          rw [if_pos ⟨rfl, rfl⟩, e2, if_pos (by simp; omega), phiE_eq hp hkd, hpk]
        · rw [if_neg haj, h4 a j ha hne hj]
          obtain ⟨c, p, e3, hc, hpp, e4⟩ := h a j ha hj
          rw [e3]
          by_cases hcv : c = v
          · subst hcv
            have hpk2 : p ≠ k := fun e5 => by
              subst e5
              rw [e4] at e
              have t1 := congrArg Prod.fst e
              have t2 := congrArg Prod.snd e
              simp at t1 t2
              exact haj ⟨by omega, by omega⟩
            by_cases hlt : p < k
            · rw [if_pos (by simp; omega), if_pos (by simp; omega)]
            · rw [if_neg (by simp; omega), if_neg (by simp; omega)]
          · rw [if_neg (by simp; omega), if_neg (by simp; omega)]

theorem portsK_all {ess : List (List (Int × Int))} {v : Nat} {π : List Int} (h : Sym ess) (hv : v < ess.length) (hp : π.Perm (upTo (dg ess v))) : portsK ess v π (dg ess v) = portsE ess v π := by
  obtain ⟨h1, h2, h3, h4⟩ := portsK_inv h hv hp (dg ess v) (Nat.le_refl _)
  apply ess_ext
  · rw [h1, portsE_len]
  · intro a _; rw [h2, portsE_dg]
  · intro a i ha hi
    rw [h1] at ha
    rw [h2] at hi
    by_cases hav : a = v
    · subst hav
      obtain ⟨j, hj, rfl⟩ := piN_surj hp hi
      rw [h3 j hj hj, (portsE_at hp ha hj).2]
    · have e1 := (portsE_at hp ha hi).2
      have e0 : piN π v a i = i := by unfold piN; rw [if_neg hav]
      rw [e0] at e1
      rw [h4 a i ha hav hi, e1]
      obtain ⟨c, p, e3, hc, hpp, e4⟩ := h a i ha hi
      rw [e3]
      by_cases hcv : c = v
      · subst hcv
        rw [if_pos (by simp; omega)]
      · rw [if_neg (by simp; omega)]
        unfold phiE
        rw [if_neg (by simp; omega)]
end Go.Proofs.YtljjbhihllnnaaaGreat

namespace Go.Proofs.YtljjbhihllnnaaaGreat

/-- the inverse permutation -/
def invP (π : List Int) (d : Nat) : List Int := (List.range d).map fun (k : Nat) => ((π.idxOf (k : Int) : Nat) : Int)
theorem invP_len (π : List Int) (d : Nat) : (invP π d).length = d := by simp [invP]
theorem invP_at {π : List Int} {d k : Nat} (h : k < d) : gi (invP π d) k = ((π.idxOf (k : Int) : Nat) : Int) := by simp [invP, gi, h]
theorem invP_pi {π : List Int} {d : Nat} (hp : π.Perm (upTo d)) {i : Nat} (hi : i < d) : ∃ k : Nat, gi π i = (k : Int) ∧ k < d ∧ gi (invP π d) k = (i : Int) := by
  obtain ⟨k, hk, hkd⟩ := perm_at hp hi
  refine ⟨k, hk, hkd, ?_⟩
  rw [invP_at hkd]
  obtain ⟨h1, h2⟩ := perm_inv hp hkd
  have := perm_inj hp h1 hi (h2.trans hk.symm)
  rw [this]
theorem invP_perm {π : List Int} {d : Nat} (hp : π.Perm (upTo d)) : (invP π d).Perm (upTo d) := by
  refine nodup_perm d _ ?_ (fun x hx => ?_) (invP_len π d)
  · unfold invP
    rw [List.nodup_iff_pairwise_ne, List.pairwise_map]
    refine List.Pairwise.imp_of_mem ?_ (List.nodup_iff_pairwise_ne.1 List.nodup_range)
    intro a b ha hb hne he
    obtain ⟨-, h2⟩ := perm_inv hp (List.mem_range.1 ha)
    obtain ⟨-, h4⟩ := perm_inv hp (List.mem_range.1 hb)
    have he' : List.idxOf (a : Int) π = List.idxOf (b : Int) π := by omega
    rw [he', h4] at h2
    omega
  · obtain ⟨k, hk, rfl⟩ := List.mem_map.1 hx
    have := (perm_inv hp (List.mem_range.1 hk)).1
    omega
theorem piN_inv {π : List Int} {v a i : Nat} {ess : List (List (Int × Int))} (hp : π.Perm (upTo (dg ess v))) (hi : i < dg ess a) : piN (invP π (dg ess v)) v a (piN π v a i) = i := by
  unfold piN
  by_cases h : a = v
  · subst h
    rw [if_pos rfl, if_pos rfl]
    obtain ⟨k, h1, h2, h3⟩ := invP_pi hp hi
    rw [h1, Int.toNat_natCast, h3, Int.toNat_natCast]
  · rw [if_neg h, if_neg h]
theorem ports_back {ess : List (List (Int × Int))} {v : Nat} {π : List Int} (h : Sym ess) (hp : π.Perm (upTo (dg ess v))) : portsE (portsE ess v π) v (invP π (dg ess v)) = ess := by
  have hd : dg (portsE ess v π) v = dg ess v := portsE_dg v
  have hq : (invP π (dg ess v)).Perm (upTo (dg (portsE ess v π) v)) := by rw [hd]; exact invP_perm hp
  refine ess_ext (by rw [portsE_len, portsE_len]) (fun a _ => by rw [portsE_dg, portsE_dg]) fun a i ha hi => ?_
  rw [portsE_len, portsE_len] at ha
  rw [portsE_dg, portsE_dg] at hi
  obtain ⟨h1, h2⟩ := portsE_at hp ha hi
  have ha' : a < (portsE ess v π).length := by rw [portsE_len]; exact ha
  have hi' : piN π v a i < dg (portsE ess v π) a := by rw [portsE_dg]; exact h1
  obtain ⟨-, h4⟩ := portsE_at hq ha' hi'
  rw [piN_inv hp hi, h2] at h4
  rw [h4]
  obtain ⟨b, j, e, hb, hj, -⟩ := h a i ha hi
  rw [e, phiE_eq hp hj]
  have hj2 : piN π v b j < dg (portsE ess v π) b := by
    rw [portsE_dg]
    exact (portsE_at hp hb hj).1
  rw [phiE_eq hq hj2, piN_inv hp hj]

/-- the place of a port among those that are kept -/
def placeK (keep : Nat → Nat → Bool) (k i : Nat) : Nat := ((List.range i).filter (keep k)).length
/-- the kept ports of a node, numbered anew -/
def partL (ess : List (List (Int × Int))) (keep : Nat → Nat → Bool) (k : Nat) : List (Int × Int) :=
  ((List.range (dg ess k)).filter (keep k)).map fun i => ((pt ess k i).1, (placeK keep (pt ess k i).1.toNat (pt ess k i).2.toNat : Int))
def partK (ess : List (List (Int × Int))) (keep : Nat → Nat → Bool) : List (List (Int × Int)) := (List.range ess.length).map (partL ess keep)
theorem partK_gl {ess : List (List (Int × Int))} {keep : Nat → Nat → Bool} {k : Nat} (h : k < ess.length) : gl (partK ess keep) k = partL ess keep k := by
  simp [partK, gl, h]
theorem filter_head {p : Nat → Bool} {m t : Nat} (h1 : ∀ i, i < m → p i = true) (h2 : ∀ i, m ≤ i → i < m + t → p i = false) : (List.range (m + t)).filter p = List.range m := by
  rw [List.range_add, List.filter_append]
  have e1 : (List.range m).filter p = List.range m := List.filter_eq_self.2 fun i hi => h1 i (List.mem_range.1 hi)
  have e2 : ((List.range t).map (m + ·)).filter p = [] := List.filter_eq_nil_iff.2 fun i hi => by
    obtain ⟨k, hk, rfl⟩ := List.mem_map.1 hi
    rw [h2 _ (by omega) (by have := List.mem_range.1 hk; omega)]
    simp
  rw [e1, e2, List.append_nil]
/-- all but the ports g and o -/
def keepB (g o : Int × Int) (k i : Nat) : Bool := !(((k : Int), (i : Int)) == g) && !(((k : Int), (i : Int)) == o)
theorem part_join {ess : List (List (Int × Int))} {v x : Nat} (h : Sym ess) (hv : v < ess.length) (hx : x < ess.length) :
    partK (joinE ess v x) (keepB ((v : Int), (dg ess v : Int)) ((x : Int), ((dg ess x + (if v = x then 1 else 0) : Nat) : Int))) = ess := by
  obtain ⟨keep, hk⟩ : ∃ keep, keep = keepB ((v : Int), (dg ess v : Int)) ((x : Int), ((dg ess x + (if v = x then 1 else 0) : Nat) : Int)) := ⟨_, rfl⟩
  rw [← hk]
  have k1 : ∀ k i, i < dg ess k → keep k i = true := fun k i hi => by
    rw [hk]
    unfold keepB
    simp only [Bool.and_eq_true, Bool.not_eq_true', beq_eq_false_iff_ne, ne_eq, Prod.mk.injEq, not_and]
    refine ⟨fun e1 e2 => ?_, fun e1 e2 => ?_⟩
    · have : k = v := by omega
      subst this; omega
    · have : k = x := by omega
      subst this; omega
  have k2 : ∀ k i, dg ess k ≤ i → i < dg (joinE ess v x) k → keep k i = false := fun k i h1 h2 => by
    rw [joinE_dg hv hx k] at h2
    rw [hk]
    unfold keepB
    simp only [Bool.and_eq_false_iff, Bool.not_eq_false', beq_iff_eq, Prod.mk.injEq]
    by_cases e1 : k = v
    · subst e1
      by_cases e2 : k = x
      · subst e2
        simp only [if_true] at h2 ⊢
        by_cases hi : i = dg ess k
        · left; exact ⟨trivial, by omega⟩
        · right; exact ⟨trivial, by omega⟩
      · simp only [if_true, e2, if_false] at h2 ⊢
        left; exact ⟨trivial, by omega⟩
    · by_cases e2 : k = x
      · subst e2
        have e3 : ¬ v = k := fun e => e1 e.symm
        simp only [e1, e3, if_true, if_false] at h2 ⊢
        right; exact ⟨trivial, by omega⟩
      · simp only [e1, e2, if_false] at h2
        omega
  have k3 : ∀ k, (List.range (dg (joinE ess v x) k)).filter (keep k) = List.range (dg ess k) := fun k => by
    have e := joinE_dg hv hx k
    obtain ⟨t, ht⟩ : ∃ t, dg (joinE ess v x) k = dg ess k + t := ⟨(if k = v then 1 else 0) + (if k = x then 1 else 0), by rw [e]; omega⟩
    rw [ht]
    exact filter_head (fun i hi => k1 k i hi) fun i h1 h2 => k2 k i h1 (by omega)
  have hl : ∀ k, k < ess.length → gl (partK (joinE ess v x) keep) k = (List.range (dg ess k)).map fun i => ((pt (joinE ess v x) k i).1, (placeK keep (pt (joinE ess v x) k i).1.toNat (pt (joinE ess v x) k i).2.toNat : Int)) := fun k hk' => by
    rw [partK_gl (by rw [joinE_len]; exact hk')]
    unfold partL
    rw [k3]
  have hlen : (partK (joinE ess v x) keep).length = ess.length := by unfold partK; simp [joinE_len]
  refine ess_ext hlen (fun a ha => ?_) fun a i ha hi => ?_
  · rw [hlen] at ha
    unfold dg
    rw [hl a ha, List.length_map, List.length_range]
    rfl
  · rw [hlen] at ha
    have hi' : i < dg ess a := by
      unfold dg at hi
      rw [hl a ha, List.length_map, List.length_range] at hi
      exact hi
    obtain ⟨b, j, e, hb, hj, -⟩ := h a i ha hi'
    have e2 : gp (gl (partK (joinE ess v x) keep) a) i = ((pt (joinE ess v x) a i).1, (placeK keep (pt (joinE ess v x) a i).1.toNat (pt (joinE ess v x) a i).2.toNat : Int)) := by
      rw [hl a ha]
      simp [gp, hi']
    show gp (gl (partK (joinE ess v x) keep) a) i = _
    rw [e2, joinE_old hv hx hi', e]
    simp only [Int.toNat_natCast]
    have : placeK keep b j = j := by
      unfold placeK
      rw [List.filter_eq_self.2 fun i hi => k1 b i (by have := List.mem_range.1 hi; omega), List.length_range]
    rw [this]

/-- the port i of a node k with the ports es is the first one of its edge -/
def firstB (es : List (Int × Int)) (k i : Nat) : Bool := decide ((k : Int) < (gp es i).1 ∨ ((k : Int) = (gp es i).1 ∧ (i : Int) ≤ (gp es i).2))
def cntE (es : List (Int × Int)) (k : Nat) : Nat := ((List.range es.length).filter (firstB es k)).length
/-- how many edges -/
def edgeN (ess : List (List (Int × Int))) : Nat := ((List.range ess.length).map fun k => cntE (gl ess k) k).sum
theorem cntE_shift (n k : Nat) (es : List (Int × Int)) : cntE (shiftE n es) (n + k) = cntE es k := by
  unfold cntE
  have hl : (shiftE n es).length = es.length := by unfold shiftE; simp
  rw [hl]
  congr 1
  refine List.filter_congr fun i hi => ?_
  unfold firstB
  rw [gp_shift (List.mem_range.1 hi)]
  congr 1
  simp only [eq_iff_iff]
  constructor <;> rintro (h | ⟨h1, h2⟩)
  · left; omega
  · right; omega
  · left; omega
  · right; omega
theorem edgeN_union (e1 e2 : List (List (Int × Int))) : edgeN (unionE e1 e2) = edgeN e1 + edgeN e2 := by
  unfold edgeN
  rw [unionE_len, List.range_add, List.map_append, List.sum_append]
  congr 1
  · congr 1
    refine List.map_congr_left fun k hk => ?_
    rw [unionE_gl1 (List.mem_range.1 hk)]
  · rw [List.map_map]
    congr 1
    refine List.map_congr_left fun k hk => ?_
    show cntE (gl (unionE e1 e2) (e1.length + k)) (e1.length + k) = _
    rw [unionE_gl2 (List.mem_range.1 hk), cntE_shift]
end Go.Proofs.YtljjbhihllnnaaaGreat

namespace Go.Proofs.YtljjbhihllnnaaaGreat

/-- a view that was read: its degree, its input, the ports and the parts -/
inductive VT where
  | mk (deg inp : Nat) (ports : List Nat) (parts : List VT) : VT

namespace VT
def deg : VT → Nat | mk d _ _ _ => d
def inp : VT → Nat | mk _ i _ _ => i
def ports : VT → List Nat | mk _ _ ps _ => ps
def parts : VT → List VT | mk _ _ _ ts => ts
end VT

mutual
/-- the depth: one more than that of the deepest part -/
def VT.dep : VT → Nat | .mk _ _ _ ts => deps ts
def deps : List VT → Nat | [] => 0 | t :: ts => max (t.dep + 1) (deps ts)
end
mutual
/-- all parts have one depth -/
def VT.uni : VT → Bool | .mk _ _ _ ts => unis ts
def unis : List VT → Bool | [] => true | t :: ts => t.uni && (ts.all fun x => x.dep == t.dep) && unis ts
end
mutual
/-- the view can have the depth k -/
def VT.fits : VT → Nat → Bool | .mk d _ _ ts, k => d == 0 || ((ts.isEmpty == (k == 0)) && fitss ts (k - 1))
def fitss : List VT → Nat → Bool | [], _ => true | t :: ts, k => t.fits k && fitss ts k
end

/-- a digit of at most a number -/
def dgt (most : Nat) : List UInt8 → Option (Nat × List UInt8)
  | [] => none
  | c :: r => if 48 ≤ c.toNat ∧ c.toNat ≤ 48 + most then some (c.toNat - 48, r) else none
/-- a given byte -/
def sgn (b : UInt8) : List UInt8 → Option (List UInt8)
  | [] => none
  | c :: r => if c = b then some r else none
/-- n parts, the first behind the byte s, the others behind a comma -/
def pks (p : List UInt8 → Option (VT × List UInt8)) : Nat → UInt8 → List UInt8 → Option (List Nat × List VT × List UInt8)
  | 0, _, l => some ([], [], l)
  | n + 1, s, l =>
    match sgn s l with
    | none => none
    | some l1 => match dgt 5 l1 with
      | none => none
      | some (j, l2) => match sgn 58 l2 with
        | none => none
        | some l3 => match p l3 with
          | none => none
          | some (t, l4) => if j < t.deg then
              match pks p n 44 l4 with
              | none => none
              | some (ps, ts, l5) => some (j :: ps, t :: ts, l5)
            else none
/-- a view -/
def pv : Nat → List UInt8 → Option (VT × List UInt8)
  | 0, _ => none
  | f + 1, l =>
    match dgt 6 l with
    | none => none
    | some (d, l1) => match sgn 46 l1 with
      | none => none
      | some l2 => match dgt 9 l2 with
        | none => none
        | some (i, l3) => if d = 0 ∨ l3.head? ≠ some 40 then some (.mk d i [] [], l3) else
            match pks (pv f) d 40 l3 with
            | none => none
            | some (ps, ts, l4) => match sgn 41 l4 with
              | none => none
              | some l5 => some (.mk d i ps ts, l5)

theorem dgt_len {m : Nat} {l r : List UInt8} {d : Nat} (h : dgt m l = some (d, r)) : l.length = r.length + 1 ∧ d ≤ m := by
  cases l with
  | nil => simp [dgt] at h
  | cons c l =>
    simp only [dgt] at h
    split at h
    · simp at h; obtain ⟨rfl, rfl⟩ := h; simp; omega
    · cases h
theorem sgn_len {b : UInt8} {l r : List UInt8} (h : sgn b l = some r) : l.length = r.length + 1 := by
  cases l with
  | nil => simp [sgn] at h
  | cons c l =>
    simp only [sgn] at h
    split at h
    · simp at h; subst h; simp
    · cases h

theorem pks_len {p : List UInt8 → Option (VT × List UInt8)} (hp : ∀ l t r, p l = some (t, r) → r.length + 3 ≤ l.length) {n : Nat} {s : UInt8} {l r : List UInt8} {ps : List Nat} {ts : List VT} (h : pks p n s l = some (ps, ts, r)) :
    r.length + 6 * n ≤ l.length ∧ ps.length = n ∧ ts.length = n := by
  induction n generalizing s l r ps ts with
  | zero => simp [pks] at h; obtain ⟨rfl, rfl, rfl⟩ := h; simp
  | succ n ih =>
    unfold pks at h
    split at h; · cases h
    rename_i l1 h1
    split at h; · cases h
    rename_i j l2 h2
    split at h; · cases h
    rename_i l3 h3
    split at h; · cases h
    rename_i t l4 h4
    split at h
    · split at h; · cases h
      rename_i ps' ts' l5 h5
      simp at h
      obtain ⟨rfl, rfl, rfl⟩ := h
      have := ih h5
      have := sgn_len h1
      have := dgt_len h2
      have := sgn_len h3
      have := hp _ _ _ h4
      simp; omega
    · cases h
theorem pv_len {f : Nat} {l r : List UInt8} {t : VT} (h : pv f l = some (t, r)) : r.length + 3 ≤ l.length := by
  induction f generalizing l r t with
  | zero => cases h
  | succ f ih =>
    unfold pv at h
    split at h; · cases h
    rename_i d l1 h1
    split at h; · cases h
    rename_i l2 h2
    split at h; · cases h
    rename_i i l3 h3
    have := dgt_len h1
    have := sgn_len h2
    have := dgt_len h3
    split at h
    · simp at h; obtain ⟨rfl, rfl⟩ := h; omega
    · split at h; · cases h
      rename_i ps ts l4 h4
      split at h; · cases h
      rename_i l5 h5
      simp at h; obtain ⟨rfl, rfl⟩ := h
      have := sgn_len h5
      have := (pks_len (fun _ _ _ => ih) h4).1
      omega

theorem deps_snoc (ts : List VT) (t : VT) : deps (ts ++ [t]) = max (deps ts) (t.dep + 1) := by
  induction ts with
  | nil => simp [deps]
  | cons x ts ih => simp only [List.cons_append, deps, ih]; omega
theorem deps_ge {ts : List VT} {t : VT} (h : t ∈ ts) : t.dep + 1 ≤ deps ts := by
  induction ts with
  | nil => cases h
  | cons x ts ih =>
    simp only [deps]
    rcases List.mem_cons.1 h with rfl | h
    · omega
    · have := ih h; omega
theorem deps_pos {ts : List VT} (h : ts ≠ []) : 0 < deps ts := by
  cases ts with
  | nil => exact absurd rfl h
  | cons x ts => simp only [deps]; omega

/-- what has been read before, put ahead of what comes -/
def pre (ps : List Nat) (ts : List VT) (x : Option (List Nat × List VT × List UInt8)) : Option (List Nat × List VT × List UInt8) := x.map fun (qs, us, r) => (ps ++ qs, ts ++ us, r)
theorem pre_none (ps : List Nat) (ts : List VT) : pre ps ts none = none := rfl
theorem pre_nil (x : Option (List Nat × List VT × List UInt8)) : pre [] [] x = x := by
  cases x <;> rfl
theorem pre_zero (p : List UInt8 → Option (VT × List UInt8)) (s : UInt8) (l : List UInt8) (ps : List Nat) (ts : List VT) : pre ps ts (pks p 0 s l) = some (ps, ts, l) := by simp [pre, pks]
/-- one more part -/
theorem pre_step (p : List UInt8 → Option (VT × List UInt8)) {n : Nat} {s : UInt8} {l l1 l2 l3 l4 : List UInt8} {j : Nat} {t : VT} (ps : List Nat) (ts : List VT)
    (h1 : sgn s l = some l1) (h2 : dgt 5 l1 = some (j, l2)) (h3 : sgn 58 l2 = some l3) (h4 : p l3 = some (t, l4)) (h5 : j < t.deg) :
    pre ps ts (pks p (n + 1) s l) = pre (ps ++ [j]) (ts ++ [t]) (pks p n 44 l4) := by
  rw [pks, h1]
  simp only [h2, h3, h4, h5, if_true]
  cases pks p n 44 l4 with
  | none => rfl
  | some x => obtain ⟨qs, us, r⟩ := x; simp [pre]
theorem pks_none1 (p : List UInt8 → Option (VT × List UInt8)) {n : Nat} {s : UInt8} {l : List UInt8} (h : sgn s l = none) : pks p (n + 1) s l = none := by simp [pks, h]
theorem pks_none2 (p : List UInt8 → Option (VT × List UInt8)) {n : Nat} {s : UInt8} {l l1 : List UInt8} (h1 : sgn s l = some l1) (h : dgt 5 l1 = none) : pks p (n + 1) s l = none := by simp [pks, h1, h]
theorem pks_none3 (p : List UInt8 → Option (VT × List UInt8)) {n : Nat} {s : UInt8} {l l1 l2 : List UInt8} {j : Nat} (h1 : sgn s l = some l1) (h2 : dgt 5 l1 = some (j, l2)) (h : sgn 58 l2 = none) : pks p (n + 1) s l = none := by simp [pks, h1, h2, h]
theorem pks_none4 (p : List UInt8 → Option (VT × List UInt8)) {n : Nat} {s : UInt8} {l l1 l2 l3 : List UInt8} {j : Nat} (h1 : sgn s l = some l1) (h2 : dgt 5 l1 = some (j, l2)) (h3 : sgn 58 l2 = some l3) (h : p l3 = none) : pks p (n + 1) s l = none := by simp [pks, h1, h2, h3, h]
theorem pks_none5 (p : List UInt8 → Option (VT × List UInt8)) {n : Nat} {s : UInt8} {l l1 l2 l3 l4 : List UInt8} {j : Nat} {t : VT} (h1 : sgn s l = some l1) (h2 : dgt 5 l1 = some (j, l2)) (h3 : sgn 58 l2 = some l3) (h4 : p l3 = some (t, l4)) (h : ¬ j < t.deg) : pks p (n + 1) s l = none := by simp [pks, h1, h2, h3, h4, h]

/-- what the program takes: one depth everywhere, at most 80 -/
def VT.good (t : VT) : Bool := t.uni && decide (t.dep ≤ 80)
/-- what the parser of the program gives -/
def pg (f : Nat) (l : List UInt8) : Option (VT × List UInt8) := match pv f l with
  | none => none
  | some (t, r) => if t.good = true then some (t, r) else none

theorem uni_mk {d i : Nat} {ps : List Nat} {ts : List VT} : (VT.mk d i ps ts).uni = unis ts := by simp [VT.uni]
theorem dep_mk {d i : Nat} {ps : List Nat} {ts : List VT} : (VT.mk d i ps ts).dep = deps ts := by simp [VT.dep]
theorem unis_iff {ts : List VT} : unis ts = true ↔ (∀ t ∈ ts, t.uni = true) ∧ ∀ t ∈ ts, t.dep + 1 = deps ts := by
  induction ts with
  | nil => simp [unis]
  | cons x ts ih =>
    simp only [unis, Bool.and_eq_true, List.all_eq_true, beq_iff_eq, ih, List.mem_cons, forall_eq_or_imp, deps]
    constructor
    · rintro ⟨⟨h1, h2⟩, h3, h4⟩
      have h5 : max (x.dep + 1) (deps ts) = x.dep + 1 := by
        cases ts with
        | nil => simp [deps]
        | cons y ts =>
          have := h4 y (by simp)
          have := h2 y (by simp)
          omega
      exact ⟨⟨h1, h3⟩, by omega, fun t ht => by have := h2 t ht; omega⟩
    · rintro ⟨⟨h1, h3⟩, h5, h6⟩
      have h7 : ∀ t ∈ ts, t.dep = x.dep := fun t ht => by have := h6 t ht; omega
      refine ⟨⟨h1, h7⟩, h3, fun t ht => ?_⟩
      have h8 : deps ts ≤ max (x.dep + 1) (deps ts) := by omega
      have := deps_ge ht
      have := h6 t ht
      omega

/-- a part that is not good, or one of another depth: the whole is not good -/
theorem good_part {d i : Nat} {ps : List Nat} {ts : List VT} {t : VT} (h : (VT.mk d i ps ts).good = true) (ht : t ∈ ts) : t.good = true := by
  simp only [VT.good, Bool.and_eq_true, decide_eq_true_eq, uni_mk, dep_mk] at h ⊢
  obtain ⟨h1, h2⟩ := unis_iff.1 h.1
  exact ⟨h1 t ht, by have := deps_ge ht; omega⟩
theorem good_same {d i : Nat} {ps : List Nat} {ts : List VT} {t u : VT} (h : (VT.mk d i ps ts).good = true) (ht : t ∈ ts) (hu : u ∈ ts) : t.dep = u.dep := by
  simp only [VT.good, Bool.and_eq_true, uni_mk] at h
  obtain ⟨h1, h2⟩ := unis_iff.1 h.1
  have := h2 t ht
  have := h2 u hu
  omega
theorem good_mk {d i : Nat} {ps : List Nat} {ts : List VT} (h1 : ∀ t ∈ ts, t.good = true) (h2 : ∀ t ∈ ts, ∀ u ∈ ts, t.dep = u.dep) (h3 : deps ts ≤ 80) : (VT.mk d i ps ts).good = true := by
  simp only [VT.good, Bool.and_eq_true, decide_eq_true_eq, uni_mk, dep_mk]
  refine ⟨unis_iff.2 ⟨fun t ht => ?_, ?_⟩, h3⟩
  · have := h1 t ht
    simp only [VT.good, Bool.and_eq_true] at this
    exact this.1
  · have key : ∀ us : List VT, (∀ t ∈ us, ∀ u ∈ us, t.dep = u.dep) → ∀ t ∈ us, t.dep + 1 = deps us := by
      intro us
      induction us with
      | nil => intro _ t ht; cases ht
      | cons x us ih =>
        intro h t ht
        have h4 : t.dep = x.dep := h t ht x (by simp)
        simp only [deps]
        cases us with
        | nil => simp [deps]; omega
        | cons y us =>
          have := ih (fun t ht u hu => h t (by simp [List.mem_cons.1 ht]) u (by simp [List.mem_cons.1 hu])) y (by simp)
          have := h y (by simp) x (by simp)
          omega
    exact key ts h2
end Go.Proofs.YtljjbhihllnnaaaGreat
