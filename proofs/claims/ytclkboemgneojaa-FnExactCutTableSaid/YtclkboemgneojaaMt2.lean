/- The program's rows sorted. -/
import Derived.Test.YtclkboemgneojaaMt1
namespace Go.Proofs.Ytclkboemgneojaa
open Go.RowKit Go.Sort

theorem heap_mapBlock (w : World) (g : Nat) (f : Array Value → Array Value) {c : Array Value} {t : TypeId} {fr : Nat × Nat} (h : w.heap[g]? = some (.cells c t fr)) : (mapBlock w g f).heap[g]? = some (.cells (f c) t fr) := by
  simp [mapBlock, Array.getElem?_modify, h, onCells]
theorem heap_mapBlock_ne (w : World) (g k : Nat) (f : Array Value → Array Value) (h : k ≠ g) : (mapBlock w g f).heap[k]? = w.heap[k]? := by
  simp [mapBlock, Array.getElem?_modify, Ne.symm h]
theorem flat_get (d : List RowT) {i : Nat} (hi : i < d.length * 2) : (flatK encR.enc 2 d.toArray)[i]! = (if i % 2 = 0 then .string (ga d (i / 2)).1 else .int .i64 (ga d (i / 2)).2) := by
  rw [get_flatK _ _ _ _ (by simpa using hi)]
  have hj : i / 2 < d.length := by omega
  have : d.toArray[i / 2]! = ga d (i / 2) := by rw [ga_lt hj]; simp [hj]
  rw [this]
  rcases Nat.mod_two_eq_zero_or_one i with h | h <;> simp [h, encR]
theorem own_sorted {t : TypeId} {w : World} {B g cap : Nat} {rs : List RowT} (h : OwnG encR t w B (.slice (some ⟨g, 0, none⟩) rs.length cap) rs) (d : List RowT) (hl : d.length = rs.length) (n : Nat) (os : Array Obj) :
    OwnG encR t (sortWorldK encR.enc 2 w g 0 n d.toArray os) B (.slice (some ⟨g, 0, none⟩) d.length cap) d ∧ w.grownBy (sortWorldK encR.enc 2 w g 0 n d.toArray os) (some g) := by
  rcases h.2 with ⟨h1, _⟩ | ⟨g', cap', cur, hv, hB, hg, hn, hm, hs, ht⟩
  · cases h1
  cases hv
  have hk : encR.k = 2 := rfl
  have hgl : g < w.heap.size := (Array.getElem?_eq_some_iff.1 hg).1
  have hsz : (sortWorldK encR.enc 2 w g 0 n d.toArray os).heap.size = w.heap.size + os.size := by simp [sortWorldK, grow, putRowK]
  have hne : ∀ k, k < w.heap.size → k ≠ g → (sortWorldK encR.enc 2 w g 0 n d.toArray os).heap[k]? = w.heap[k]? := fun k hk hne => by
    unfold sortWorldK grow putRowK putRow
    rw [Array.getElem?_append_left (by simpa [mapBlock] using hk), heap_mapBlock_ne _ _ _ _ hne]
    rfl
  refine ⟨⟨encR.cells_length d, .inr ⟨g, cap, putCells id 0 (flatK encR.enc 2 d.toArray) cur, rfl, hB, ?_, by omega, hm, by simpa [putCells] using hs, ?_⟩⟩, ?_⟩
  · unfold sortWorldK grow putRowK putRow
    rw [Array.getElem?_append_left (by simpa [mapBlock] using hgl)]
    exact heap_mapBlock _ _ _ hg
  · apply List.ext_getElem?
    intro i
    rw [hk] at hs ⊢
    by_cases hi : i < d.length * 2
    · rw [List.getElem?_take_of_lt hi]
      have h1 := encR.cells_get (xs := d) (j := i / 2) (i := i % 2) (by omega) (by rw [hk]; omega)
      rw [hk, show i / 2 * 2 + i % 2 = i by omega] at h1
      rw [h1, Array.getElem?_toList]
      have hic : i < cur.size := by omega
      simp only [putCells, Array.getElem?_mapIdx, Array.getElem?_eq_getElem hic, Option.map_some, Nat.zero_le, true_and, Nat.zero_add, size_flatK, List.size_toArray, if_pos hi, Nat.sub_zero, id]
      rw [flat_get d hi]
      rcases Nat.mod_two_eq_zero_or_one i with h | h <;> simp [h, encR]
    · rw [List.getElem?_eq_none (by simp; omega), List.getElem?_eq_none (by rw [encR.cells_length, hk]; omega)]
  · exact ⟨rfl, rfl, rfl, by omega, fun k hk hne2 => hne k hk (fun e => hne2 (by rw [e]))⟩
theorem own_holds {t : TypeId} {w : World} {B g cap : Nat} {rs : List RowT} (h : OwnG encR t w B (.slice (some ⟨g, 0, none⟩) rs.length cap) rs) : HoldsK encR.enc 2 w g 0 rs.toArray := by
  intro j hj
  rw [size_flatK, List.size_toArray] at hj
  obtain ⟨h1, h2⟩ := h.at_ (j := j / 2) (by omega)
  have h3 := h1 (j % 2) (by show j % 2 < 2; omega)
  rw [show j / 2 * encR.k + j % 2 = j by show j / 2 * 2 + j % 2 = j; omega] at h3
  rw [Nat.zero_add, flat_get rs hj]
  refine ⟨?_, h2 j⟩
  rw [h3]
  rcases Nat.mod_two_eq_zero_or_one j with h | h <;> simp [h, encR]

def RetSo (w : World) (t : TypeId) (B g cap : Nat) (rs : List RowT) (e : Ending) (w' : World) : Prop :=
  e = .returned (.tuple #[]) ∧ OwnG encR t w' B (.slice (some ⟨g, 0, none⟩) rs.length cap) (rs.mergeSort fun x y => !ltR y x) ∧ w.grownBy w' (some g)

theorem sortRows_any (B g cap : Nat) (rs : List RowT) (w : World) (h : OwnG encR 84 w B (.slice (some ⟨g, 0, none⟩) rs.length cap) rs) (hn : rs.length ≤ 4194304) :
    Calls Try.prog 133 #[.slice (some ⟨g, 0, none⟩) rs.length cap, .func (.func 134) #[] #[]] w (RetSo w 84 B g cap rs) := by
  have eg : ∀ args w, (callFunc 134 args).run Try.prog w = .ok (.enter 134 args) w := enters_of Try.func134 (by kernel_rfl) rfl
  have hcl : CmpLays Try.prog 134 #[] encR.enc 2 cfR g 0 rs.toArray.size w := fun m os dk hs x y => (madeClo x y _).mono fun e w' ⟨he, q, os', hw⟩ => ⟨he, q, os', hw⟩
  have hgl : g < w.heap.size := by
    rcases h.2 with ⟨h1, _⟩ | ⟨g', cap', cur, hv, hB, hg, _⟩
    · cases h1
    · cases hv; exact (Array.getElem?_eq_some_iff.1 hg).1
  have hS := AnyQ.slices_SortFunc_total Try.laysSlF06_f133 2 Try.isAgg84 Try.sizeOf84 encR.enc (fun _ => rfl) encR.one cfR (by rw [ltOf_cfR]; exact swoR) 134 #[] g 0 cap rs.toArray w eg hcl (own_holds h) hgl (by simp; omega) (by rw [ltOf_cfR]; exact totR)
  rw [ltOf_cfR] at hS
  rw [List.size_toArray] at hS
  refine Calls.mono hS ?_
  rintro e w' ⟨he, n, os, rfl⟩
  obtain ⟨h1, h2⟩ := own_sorted h (rs.mergeSort fun x y => !ltR y x) (List.length_mergeSort _) n os
  rw [List.length_mergeSort] at h1
  exact ⟨he, h1, h2⟩
end Go.Proofs.Ytclkboemgneojaa
