/- Parts of the proof, joined: Lw, Lt2. -/
import Derived.Test.YtjoimponfeofkaaGreatCJn9
import Derived.Test.YtjoimponfeofkaaGreatCJn31
import Derived.Test.YtjoimponfeofkaaGreatCRd
import Derived.Test.YtjoimponfeofkaaGreatCJn23
namespace Go.Proofs.YtjoimponfeofkaaGreat
open Go.RowKit

theorem Marked.at_ {B C : Nat} {w w' : World} (hm : Marked B C w w') {g : Nat} (hl : g < w.heap.size) (hg : g < B ∨ C ≤ g) : w'.heap[g]? = w.heap[g]? := by
  rcases hm.block g hl with h3 | h3
  · omega
  · exact h3
theorem Blk.mk_ {B C g : Nat} {w w' : World} {t : TypeId} {cs : Array Value} (h : Blk w g t cs) (hm : Marked B C w w') (hg : g < B ∨ C ≤ g) : Blk w' g t cs := (hm.at_ h.lt hg).trans h
theorem OwnI.mk_ {w w' : World} {B C D : Nat} {v : Value} {xs : List Int} (h : OwnI w D v xs) (hm : Marked B C w w') (hD : ∀ g, v.ownBlock = some g → g < B ∨ C ≤ g) : OwnI w' D v xs := by
  refine ⟨h.1, ?_⟩
  rcases h.2 with h2 | ⟨g, cap, cur, rfl, hB, hg, hr⟩
  · exact .inl h2
  · exact .inr ⟨g, cap, cur, rfl, hB, (hm.at_ (Array.getElem?_eq_some_iff.1 hg).1 (hD g rfl)).trans hg, hr⟩
theorem OwnG.mk_ {α : Type} {E : Enc α} {T : TypeId} {w w' : World} {B C D : Nat} {v : Value} {xs : List α} (h : OwnG E T w D v xs) (hm : Marked B C w w') (hD : ∀ g, v.ownBlock = some g → g < B ∨ C ≤ g) : OwnG E T w' D v xs :=
  h.keepB fun b hb => hm.at_ (h.lt b hb).2 (hD b hb)
theorem SlR.mk_ {α : Type} [Inhabited α] {E : Enc α} {w w' : World} {B C : Nat} {S : Nat → Prop} {v : Value} {xs : List α} (h : SlR E w S v xs) (hm : Marked B C w w') (hS : ∀ b, S b → b < B ∨ C ≤ b) : SlR E w' S v xs :=
  h.keep (fun _ h => h) hm.size fun b hb hl => hm.at_ hl (hS b hb)
theorem Marked.bel {B C D : Nat} {w0 w w' : World} (h : Below D w0 w) (hm : Marked B C w w') (hd : D ≤ B) (hs : D ≤ w0.heap.size) : Below D w0 w' := h.trans (hm.below hd (Nat.le_trans hs h.size))

/-- the depth, the rows and the flag of an answer -/
def aD (x : Option (List RowT)) (k : Int) : Int := match x with | none => 0 | some _ => k
def aM (x : Option (List RowT)) : List RowT := x.getD []
theorem mNet_cells {W : World} {g : Nat} {t : TypeId} {a b c : Value} (h : Blk W g t #[a, b, c]) : W.cell? ⟨g, 0, none⟩ = some a ∧ W.cell? ⟨g, 1, none⟩ = some b ∧ W.cell? ⟨g, 2, none⟩ = some c :=
  ⟨by rw [h.cell]; rfl, by rw [h.cell]; rfl, by rw [h.cell]; rfl⟩
theorem mTab_cells {W : World} {g : Nat} {t : TypeId} {a b : Value} (h : Blk W g t #[a, b]) : W.cell? ⟨g, 0, none⟩ = some a ∧ W.cell? ⟨g, 1, none⟩ = some b :=
  ⟨by rw [h.cell]; rfl, by rw [h.cell]; rfl⟩
theorem markTable_nat (B : Nat) (v : Value) (D : Int) (rows : List RowT) (k : Nat) (w : World) (h : OwnG encR 76 w B v rows) (h0 : 0 < k) (h1 : k + 2 * rows.length ≤ 8388608) :
    Calls Tryz.prog 17 #[.agg #[.int .i64 D, v], .int .i64 (k : Nat)] w (RetMkT w B v k rows.length) := markTable_any B v D rows k w h h0 h1
theorem markTable_1 (B : Nat) (v : Value) (D : Int) (rows : List RowT) (w : World) (h : OwnG encR 76 w B v rows) (h1 : rows.length ≤ 2097152) :
    Calls Tryz.prog 17 #[.agg #[.int .i64 D, v], .int .i64 1] w (RetMkT w B v 1 rows.length) := markTable_any B v D rows 1 w h (by omega) (by omega)

theorem OwnN.keepB {w w' : World} {B : Nat} {v : Value} {N : Net} (h : OwnN w B v N) (hk : ∀ b, B ≤ b → b < w.heap.size → w'.heap[b]? = w.heap[b]?) : OwnN w' B v N := by
  obtain ⟨ve, vi, vn, rfl, h1, h2, h3⟩ := h
  exact ⟨ve, vi, vn, rfl, h1.keepB hk, h2.keepB hk, h3.keepB hk⟩
/-- a world of which only the first n blocks are kept -/
def cutW (w : World) (n : Nat) : World := { w with heap := w.heap.extract 0 n }
theorem cutW_size {w : World} {n : Nat} (h : n ≤ w.heap.size) : (cutW w n).heap.size = n := by simp [cutW]; omega
theorem cutW_at {w : World} {n b : Nat} (h : b < n) : (cutW w n).heap[b]? = w.heap[b]? := by
  simp only [cutW, Array.getElem?_extract]
  by_cases hb : b < w.heap.size
  · rw [if_pos (by omega)]; simp
  · rw [if_neg (by omega), Array.getElem?_eq_none (by omega)]
theorem cutW_below {w : World} {n : Nat} (h : n ≤ w.heap.size) : Below (cutW w n).heap.size (cutW w n) w :=
  ⟨rfl, rfl, rfl, by rw [cutW_size h]; exact h, fun b hb => (cutW_at (by rw [cutW_size h] at hb; exact hb)).symm⟩
theorem markNetwork_at (B : Nat) (v : Value) (N : Net) (k : Int) (w0 w : World) (h : OwnN w0 B v N) (hs : ShortN N) (hz : w0.heap.size ≤ w.heap.size) (hk : ∀ b, B ≤ b → b < w0.heap.size → w.heap[b]? = w0.heap[b]?) (h0 : 0 ≤ k) (h1 : k ≤ 16777216) :
    Calls Tryz.prog 18 #[v, .int .i64 k] w (RetMN w B w0.heap.size) := by
  have := markNetwork_any B v N k (cutW w w0.heap.size) w (h.keepB fun b hb hl => (cutW_at hl).trans (hk b hb hl)) hs (cutW_below hz) h0 h1
  rwa [cutW_size hz] at this
end Go.Proofs.YtjoimponfeofkaaGreat

namespace Go.Proofs.YtjoimponfeofkaaGreat
open Go.RowKit

theorem RetCs.out_ {w w' : World} {k : Int} {x : Option (List RowT)} {e : Ending} (h : RetCs w k x e w') : ∃ A c, e = .returned (.tuple #[.agg #[.int .i64 (aD x k), .slice A (aM x).length c], .bool x.isSome]) ∧ Below w.heap.size w w' ∧ SlR encR w' (fun b => w.heap.size ≤ b ∧ b < w'.heap.size) (.slice A (aM x).length c) (aM x) := by
  cases x with
  | none => exact ⟨none, 0, h.2, h.1, SlR.nil⟩
  | some m => obtain ⟨hb, A, c, he, hs⟩ := h; exact ⟨A, c, he, hb, hs.sized⟩
theorem RetMt.out_ {w w' : World} {k : Int} {x : Option (List RowT)} {e : Ending} (h : RetMt w k x e w') : ∃ A c, e = .returned (.tuple #[.agg #[.int .i64 (aD x k), .slice A (aM x).length c], .bool x.isSome]) ∧ Below w.heap.size w w' ∧ OwnG encR 76 w' w.heap.size (.slice A (aM x).length c) (aM x) := by
  cases x with
  | none => exact ⟨none, 0, h.2, h.1, OwnG.nil⟩
  | some m => obtain ⟨hb, A, c, he, hs⟩ := h; exact ⟨A, c, he, hb, hs⟩
end Go.Proofs.YtjoimponfeofkaaGreat
