/- A piece of a slice, as a reading. No program in sight. -/
import Derived.Test.YtjoimponfeofkaaGreatCJn2
import Derived.Laws.Slices
namespace Go.Proofs.YtjoimponfeofkaaGreat
open Go.RowKit

theorem SlR.sliced {α : Type} [Inhabited α] {E : Enc α} {w : World} {S : Nat → Prop} {A : Option Addr} {n c : Nat} {xs : List α} (h : SlR E w S (.slice A n c) xs) (l r : Nat) (hlr : l ≤ r) (hr : r ≤ xs.length) :
    SlR E w S (Go.sliced A l r c E.k) ((xs.drop l).take (r - l)) := by
  obtain ⟨A', c0, hv, h1, h2, h3⟩ := h
  cases hv
  have hl : ((xs.drop l).take (r - l)).length = r - l := by simp; omega
  unfold Go.sliced
  refine ⟨_, c - l, by rw [hl], by omega, by omega, fun hp => ?_⟩
  rw [hl] at hp ⊢
  obtain ⟨b, off, rfl, hS, hlt, hcell⟩ := h3 (by omega)
  rw [if_neg (by omega)]
  refine ⟨b, off + l * E.k, by rw [Option.map_some, addr_add], hS, hlt, fun j hj q hq => ?_⟩
  have := hcell (l + j) (by omega) q hq
  rw [show off + l * E.k + j * E.k + q = off + (l + j) * E.k + q by rw [Nat.add_mul]; omega, this]
  simp [ga, List.getElem?_take_of_lt hj]
theorem run_slice_hi {P : Program} {t e : TypeId} {s : Nat} (ht : P.underlying t = some (.slice e)) (hs : ∀ W, (sizeOf e).run P W = .ok s W) (A : Option Addr) (n c k : Nat) (h : k ≤ c) (W : World) :
    (Instr.sliceAt t (.slice A n c) none (some (.int .i64 (k : Nat))) none).run P W = .ok (Go.sliced A 0 k c s) W := by
  have he : P.elem t = e := by simp [Program.elem, ht]
  have ht' : P.underlying t = some (.slice (P.elem t)) := by rw [he]; exact ht
  rw [run_sliceAt_slice _ _ _ _ _ _ ht', run_slice_h _ _ _ _ _ ht' _ _ (by omega) (by omega), he, hs]
  rfl
theorem run_slice_lo {P : Program} {t e : TypeId} {s : Nat} (ht : P.underlying t = some (.slice e)) (hs : ∀ W, (sizeOf e).run P W = .ok s W) (A : Option Addr) (n c k : Nat) (h : k ≤ n) (W : World) :
    (Instr.sliceAt t (.slice A n c) (some (.int .i64 (k : Nat))) none none).run P W = .ok (Go.sliced A k n c s) W := by
  have he : P.elem t = e := by simp [Program.elem, ht]
  have ht' : P.underlying t = some (.slice (P.elem t)) := by rw [he]; exact ht
  rw [run_sliceAt_slice _ _ _ _ _ _ ht', run_slice_l _ _ _ _ _ ht' _ _ (by omega) (by omega), he, hs]
  rfl
end Go.Proofs.YtjoimponfeofkaaGreat
