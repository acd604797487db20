/- What a statement's conversions and the functions' answers make in a region that draws its order. -/
import Derived.Test.YtjoimponfeofkaaGreatCMkl
import Derived.Test.YtjoimponfeofkaaGreatCJn33
import Derived.Test.YtjoimponfeofkaaGreatCJn9
namespace Go.Proofs.YtjoimponfeofkaaGreat
open Go Go.RowKit

/-- a table of the call's own -/
def mkT (D : Int) (rows : List RowT) : Mkg where
  Y := fun _ v => ∃ A c, v = .agg #[.int .i64 D, .slice A rows.length c]
  F := fun _ v b _ x => ∃ A c, v = .agg #[.int .i64 D, .slice A rows.length c] ∧ OwnG encR 76 x b (.slice A rows.length c) rows
  st := fun _ _ _ _ _ _ hb h => by obtain ⟨A, c, h1, h2⟩ := h; exact ⟨A, c, h1, h2.below hb⟩
theorem mkT.gives {D : Int} {rows : List RowT} {ar : Array Value} {x x' : World} {A : Option Addr} {c : Nat} (hb : Below x.heap.size x x') (ho : OwnG encR 76 x' x.heap.size (.slice A rows.length c) rows) : Gives (mkT D rows) ar x (.agg #[.int .i64 D, .slice A rows.length c]) x' :=
  ⟨hb, ⟨_, _, rfl⟩, _, _, rfl, ho⟩
theorem mkT.own {D : Int} {rows : List RowT} {x : World} {A : Option Addr} {c b : Nat} (h : ∃ A' c', Value.agg #[.int .i64 D, .slice A rows.length c] = .agg #[.int .i64 D, .slice A' rows.length c'] ∧ OwnG encR 76 x b (.slice A' rows.length c') rows) : OwnG encR 76 x b (.slice A rows.length c) rows := by
  obtain ⟨A', c', h1, h2⟩ := h
  simp only [Value.agg.injEq, Array.mk.injEq, List.cons.injEq, Value.slice.injEq, true_and, and_true] at h1
  obtain ⟨rfl, rfl⟩ := h1
  exact h2
/-- the program's answer of a table -/
def mkAg (d : Int) (m : List RowT) (ok : Bool) : Mkg where
  Y := fun _ v => ∃ A c, v = .tuple #[.agg #[.int .i64 d, .slice A m.length c], .bool ok]
  F := fun _ v b e x => ∃ A c, v = .tuple #[.agg #[.int .i64 d, .slice A m.length c], .bool ok] ∧ OwnG encR 76 x b (.slice A m.length c) m ∧ ∀ g, (Value.slice A m.length c).ownBlock = some g → g < e
  st := fun _ _ _ _ _ _ hb h => by obtain ⟨A, c, h1, h2, h3⟩ := h; exact ⟨A, c, h1, h2.below hb, h3⟩
theorem mkAg.gives {d : Int} {m : List RowT} {ok : Bool} {ar : Array Value} {x x' : World} {A : Option Addr} {c : Nat} (hb : Below x.heap.size x x') (ho : OwnG encR 76 x' x.heap.size (.slice A m.length c) m) : Gives (mkAg d m ok) ar x (.tuple #[.agg #[.int .i64 d, .slice A m.length c], .bool ok]) x' :=
  ⟨hb, ⟨_, _, rfl⟩, _, _, rfl, ho, fun g hg => (ho.lt g hg).2⟩
theorem mkAg.own {d : Int} {m : List RowT} {ok : Bool} {x : World} {A : Option Addr} {c b e : Nat} (h : ∃ A' c', Value.tuple #[.agg #[.int .i64 d, .slice A m.length c], .bool ok] = .tuple #[.agg #[.int .i64 d, .slice A' m.length c'], .bool ok] ∧ OwnG encR 76 x b (.slice A' m.length c') m ∧ ∀ g, (Value.slice A' m.length c').ownBlock = some g → g < e) : OwnG encR 76 x b (.slice A m.length c) m := by
  obtain ⟨A', c', h1, h2, -⟩ := h
  simp only [Value.tuple.injEq, Value.agg.injEq, Array.mk.injEq, List.cons.injEq, Value.slice.injEq, true_and, and_true] at h1
  obtain ⟨rfl, rfl⟩ := h1
  exact h2
theorem mkAg.top {d : Int} {m : List RowT} {ok : Bool} {x : World} {A : Option Addr} {c b e : Nat} (h : ∃ A' c', Value.tuple #[.agg #[.int .i64 d, .slice A m.length c], .bool ok] = .tuple #[.agg #[.int .i64 d, .slice A' m.length c'], .bool ok] ∧ OwnG encR 76 x b (.slice A' m.length c') m ∧ ∀ g, (Value.slice A' m.length c').ownBlock = some g → g < e) : ∀ g, (Value.slice A m.length c).ownBlock = some g → g < e := by
  obtain ⟨A', c', h1, -, h2⟩ := h
  simp only [Value.tuple.injEq, Value.agg.injEq, Array.mk.injEq, List.cons.injEq, Value.slice.injEq, true_and, and_true] at h1
  obtain ⟨rfl, rfl⟩ := h1
  exact h2
/-- the reference's answer of a table -/
def mkAs (d : Int) (m : List RowT) (ok : Bool) : Mkg where
  Y := fun _ v => ∃ A c, v = .tuple #[.agg #[.int .i64 d, .slice A m.length c], .bool ok]
  F := fun _ v b e x => ∃ A c, v = .tuple #[.agg #[.int .i64 d, .slice A m.length c], .bool ok] ∧ SlR encR x (fun q => b ≤ q ∧ q < e) (.slice A m.length c) m
  st := fun _ _ _ _ _ _ hb h => by obtain ⟨A, c, h1, h2⟩ := h; exact ⟨A, c, h1, h2.below hb⟩
theorem mkAs.gives {d : Int} {m : List RowT} {ok : Bool} {ar : Array Value} {x x' : World} {A : Option Addr} {c : Nat} (hb : Below x.heap.size x x') (ho : SlR encR x' (fun q => x.heap.size ≤ q ∧ q < x'.heap.size) (.slice A m.length c) m) : Gives (mkAs d m ok) ar x (.tuple #[.agg #[.int .i64 d, .slice A m.length c], .bool ok]) x' :=
  ⟨hb, ⟨_, _, rfl⟩, _, _, rfl, ho⟩
theorem mkAs.own {d : Int} {m : List RowT} {ok : Bool} {x : World} {A : Option Addr} {c b e : Nat} (h : ∃ A' c', Value.tuple #[.agg #[.int .i64 d, .slice A m.length c], .bool ok] = .tuple #[.agg #[.int .i64 d, .slice A' m.length c'], .bool ok] ∧ SlR encR x (fun q => b ≤ q ∧ q < e) (.slice A' m.length c') m) : SlR encR x (fun q => b ≤ q ∧ q < e) (.slice A m.length c) m := by
  obtain ⟨A', c', h1, h2⟩ := h
  simp only [Value.tuple.injEq, Value.agg.injEq, Array.mk.injEq, List.cons.injEq, Value.slice.injEq, true_and, and_true] at h1
  obtain ⟨rfl, rfl⟩ := h1
  exact h2
/-- a network of the call's own, as the conversion makes it -/
def mkN (N : Net) : Mkg where
  Y := fun _ _ => True
  F := fun _ v b _ x => OwnN x b v N
  st := fun _ _ _ _ _ _ hb h => h.below hb
theorem mkN.gives {N : Net} {ar : Array Value} {x x' : World} {v : Value} (hb : Below x.heap.size x x') (ho : OwnN x' x.heap.size v N) : Gives (mkN N) ar x v x' := ⟨hb, trivial, ho⟩
/-- the answer of a list -/
def mkAi (m : List Int) (ok : Bool) : Mkg where
  Y := fun _ v => ∃ A c, v = .tuple #[.slice A m.length c, .bool ok]
  F := fun _ v b _ x => ∃ A c, v = .tuple #[.slice A m.length c, .bool ok] ∧ OwnI x b (.slice A m.length c) m
  st := fun _ _ _ _ _ _ hb h => by obtain ⟨A, c, h1, h2⟩ := h; exact ⟨A, c, h1, h2.below hb⟩
theorem mkAi.gives {m : List Int} {ok : Bool} {ar : Array Value} {x x' : World} {A : Option Addr} {c : Nat} (hb : Below x.heap.size x x') (ho : OwnI x' x.heap.size (.slice A m.length c) m) : Gives (mkAi m ok) ar x (.tuple #[.slice A m.length c, .bool ok]) x' :=
  ⟨hb, ⟨_, _, rfl⟩, _, _, rfl, ho⟩
theorem mkAi.own {m : List Int} {ok : Bool} {x : World} {A : Option Addr} {c b : Nat} (h : ∃ A' c', Value.tuple #[.slice A m.length c, .bool ok] = .tuple #[.slice A' m.length c', .bool ok] ∧ OwnI x b (.slice A' m.length c') m) : OwnI x b (.slice A m.length c) m := by
  obtain ⟨A', c', h1, h2⟩ := h
  simp only [Value.tuple.injEq, Array.mk.injEq, List.cons.injEq, Value.slice.injEq, true_and, and_true] at h1
  obtain ⟨rfl, rfl⟩ := h1
  exact h2
end Go.Proofs.YtjoimponfeofkaaGreat
