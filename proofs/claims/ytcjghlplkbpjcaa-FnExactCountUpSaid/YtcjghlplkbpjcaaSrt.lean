/- Plain facts on lists that are turned by exchanges: ranges exchanged, rotated, merged. -/
import Derived.Test.YtcjghlplkbpjcaaSums
namespace Go.Proofs.Ytcjghlplkbpjcaa

/-- two places exchanged -/
def swp (d : List Int) (i j : Nat) : List Int := (d.set i (gi d j)).set j (gi d i)
theorem swp_length (d : List Int) (i j : Nat) : (swp d i j).length = d.length := by simp [swp]
theorem swp_get {d : List Int} {i j : Nat} (hi : i < d.length) (hj : j < d.length) (x : Nat) : gi (swp d i j) x = if x = j then gi d i else if x = i then gi d j else gi d x := by
  unfold swp
  rw [gi_set (by simpa using hj), gi_set hi]
theorem swp_perm {d : List Int} {i j : Nat} (hi : i < d.length) (hj : j < d.length) : (swp d i j).Perm d := by
  unfold swp
  rw [gi_lt hi, gi_lt hj]
  exact List.set_set_perm hi hj

/-- k places from a on exchanged with those from b on -/
def swapR (d : List Int) (a b : Nat) : Nat → List Int
  | 0 => d
  | k + 1 => swp (swapR d a b k) (a + k) (b + k)
theorem swapR_length (d : List Int) (a b : Nat) : ∀ k, (swapR d a b k).length = d.length
  | 0 => rfl
  | k + 1 => by rw [swapR, swp_length, swapR_length d a b k]
theorem swapR_perm {d : List Int} {a b : Nat} : ∀ k, a + k ≤ d.length → b + k ≤ d.length → (swapR d a b k).Perm d
  | 0, _, _ => List.Perm.refl _
  | k + 1, h1, h2 => (swp_perm (by rw [swapR_length]; omega) (by rw [swapR_length]; omega)).trans (swapR_perm k (by omega) (by omega))
theorem swapR_get {d : List Int} {a b : Nat} : ∀ k, a + k ≤ b → b + k ≤ d.length → ∀ x, gi (swapR d a b k) x = if a ≤ x ∧ x < a + k then gi d (x - a + b) else if b ≤ x ∧ x < b + k then gi d (x - b + a) else gi d x
  | 0, _, _, x => by rw [if_neg (by omega), if_neg (by omega)]; rfl
  | k + 1, h1, h2, x => by
    have ih := swapR_get (d := d) (a := a) (b := b) k (by omega) (by omega)
    rw [swapR, swp_get (by rw [swapR_length]; omega) (by rw [swapR_length]; omega)]
    by_cases e1 : x = b + k
    · rw [if_pos e1, ih, if_neg (by omega), if_neg (by omega), if_neg (by omega), if_pos (by omega)]
      congr 1; omega
    · rw [if_neg e1]
      by_cases e2 : x = a + k
      · rw [if_pos e2, ih, if_neg (by omega), if_neg (by omega), if_pos (by omega)]
        congr 1; omega
      · rw [if_neg e2, ih]
        by_cases e3 : a ≤ x ∧ x < a + k
        · rw [if_pos e3, if_pos (by omega)]
        · rw [if_neg e3]
          by_cases e4 : b ≤ x ∧ x < b + k
          · rw [if_pos e4, if_neg (by omega), if_pos (by omega)]
          · rw [if_neg e4, if_neg (by omega), if_neg (by omega)]

/-- what stands at x when the places a .. m and m .. b are exchanged as wholes -/
def rotAt (d : List Int) (a m b x : Nat) : Int := if a ≤ x ∧ x < a + (b - m) then gi d (x + (m - a)) else if a + (b - m) ≤ x ∧ x < b then gi d (x - (b - m)) else gi d x

theorem rotAt_left {d : List Int} {m i j : Nat} (him : i ≤ m) (hj : 0 < j) (hij : j < i) (hd : m + j ≤ d.length) (x : Nat) :
    rotAt (swapR d (m - i) m j) (m - (i - j)) m (m + j) x = rotAt d (m - i) m (m + j) x := by
  unfold rotAt
  have hg := swapR_get (d := d) (a := m - i) (b := m) j (by omega) (by omega)
  by_cases e1 : m - i ≤ x ∧ x < m - i + j
  · rw [if_neg (by omega), if_neg (by omega), if_pos (by omega), hg, if_pos (by omega)]
    congr 1; omega
  · by_cases e2 : m - i + j ≤ x ∧ x < m - i + j + j
    · rw [if_pos (by omega), if_neg (by omega), if_pos (by omega), hg]
      rw [if_neg (by omega), if_pos (by omega)]
      congr 1; omega
    · by_cases e3 : m - i + j + j ≤ x ∧ x < m + j
      · rw [if_neg (by omega), if_pos (by omega), if_neg (by omega), if_pos (by omega), hg, if_neg (by omega), if_neg (by omega)]
      · rw [if_neg (by omega), if_neg (by omega), if_neg (by omega), if_neg (by omega), hg, if_neg (by omega), if_neg (by omega)]
theorem rotAt_right {d : List Int} {m i j : Nat} (him : i ≤ m) (hi : 0 < i) (hij : i < j) (hd : m + j ≤ d.length) (x : Nat) :
    rotAt (swapR d (m - i) (m + j - i) i) (m - i) m (m + (j - i)) x = rotAt d (m - i) m (m + j) x := by
  unfold rotAt
  have hg := swapR_get (d := d) (a := m - i) (b := m + j - i) i (by omega) (by omega)
  by_cases e1 : m - i ≤ x ∧ x < m - i + (j - i)
  · rw [if_pos (by omega), if_pos (by omega), hg, if_neg (by omega), if_neg (by omega)]
  · by_cases e2 : m - i + (j - i) ≤ x ∧ x < m + (j - i)
    · rw [if_neg (by omega), if_pos (by omega), if_pos (by omega), hg, if_pos (by omega)]
      congr 1; omega
    · by_cases e3 : m + (j - i) ≤ x ∧ x < m + j
      · rw [if_neg (by omega), if_neg (by omega), if_neg (by omega), if_pos (by omega), hg, if_neg (by omega), if_pos (by omega)]
        congr 1; omega
      · rw [if_neg (by omega), if_neg (by omega), if_neg (by omega), if_neg (by omega), hg, if_neg (by omega), if_neg (by omega)]
theorem rotAt_mid {d : List Int} {m i : Nat} (him : i ≤ m) (hd : m + i ≤ d.length) (x : Nat) : gi (swapR d (m - i) m i) x = rotAt d (m - i) m (m + i) x := by
  unfold rotAt
  rw [swapR_get i (by omega) (by omega)]
  by_cases e1 : m - i ≤ x ∧ x < m - i + i
  · rw [if_pos e1, if_pos (by omega)]; congr 1; omega
  · rw [if_neg e1]
    by_cases e2 : m ≤ x ∧ x < m + i
    · rw [if_pos e2, if_neg (by omega), if_pos (by omega)]; congr 1; omega
    · rw [if_neg e2, if_neg (by omega), if_neg (by omega)]

/-- sorted by a key, between two places -/
def SortedOn (κ : Int → Int) (d : List Int) (a b : Nat) : Prop := ∀ i j, a ≤ i → i < j → j < b → κ (gi d i) ≤ κ (gi d j)
/-- the same numbers, and outside of a .. b at the same places -/
def SameOut (d d' : List Int) (a b : Nat) : Prop := d'.Perm d ∧ ∀ x, ¬ (a ≤ x ∧ x < b) → gi d' x = gi d x
theorem SameOut.refl (d : List Int) (a b : Nat) : SameOut d d a b := ⟨List.Perm.refl _, fun _ _ => rfl⟩
theorem SameOut.trans {d d' d'' : List Int} {a b : Nat} (h : SameOut d d' a b) (k : SameOut d' d'' a b) : SameOut d d'' a b := ⟨k.1.trans h.1, fun x hx => (k.2 x hx).trans (h.2 x hx)⟩
theorem SameOut.wider {d d' : List Int} {a b a' b' : Nat} (h : SameOut d d' a b) (h1 : a' ≤ a) (h2 : b ≤ b') : SameOut d d' a' b' := ⟨h.1, fun x hx => h.2 x (by omega)⟩
theorem SameOut.len {d d' : List Int} {a b : Nat} (h : SameOut d d' a b) : d'.length = d.length := h.1.length_eq

/-- what lies between a and b comes out of what lay there -/
theorem SameOut.mem {d d' : List Int} {a b : Nat} (h : SameOut d d' a b) (hab : a ≤ b) (hb : b ≤ d.length) {x : Nat} (hx1 : a ≤ x) (hx2 : x < b) : ∃ y, a ≤ y ∧ y < b ∧ gi d' x = gi d y := by
  have hl := h.len
  have split : ∀ e : List Int, e.length = d.length → e = e.take a ++ ((e.drop a).take (b - a) ++ e.drop b) := by
    intro e he
    have h1 : e.drop b = (e.drop a).drop (b - a) := by rw [List.drop_drop]; congr 1; omega
    rw [h1, List.take_append_drop, List.take_append_drop]
  have e1 : d'.take a = d.take a := by
    apply List.ext_getElem (by simp; omega)
    intro i h1 h2
    simp only [List.getElem_take]
    have := h.2 i (by simp at h1; omega)
    rwa [gi_lt (by simp at h1; omega), gi_lt (by simp at h2; omega)] at this
  have e2 : d'.drop b = d.drop b := by
    apply List.ext_getElem (by simp; omega)
    intro i h1 h2
    simp only [List.getElem_drop]
    have := h.2 (b + i) (by omega)
    rwa [gi_lt (by simp at h1; omega), gi_lt (by simp at h2; omega)] at this
  have hp := h.1
  rw [split d' hl, split d rfl, e1, e2] at hp
  have hp2 := (List.perm_append_right_iff _).1 ((List.perm_append_left_iff _).1 hp)
  have hm : gi d' x ∈ (d'.drop a).take (b - a) := by
    have hlt : x - a < ((d'.drop a).take (b - a)).length := by simp; omega
    have : ((d'.drop a).take (b - a))[x - a] = gi d' x := by
      rw [gi_lt (by omega)]
      simp only [List.getElem_take, List.getElem_drop]
      congr 1; omega
    rw [← this]
    exact List.getElem_mem hlt
  obtain ⟨k, hk, e⟩ := List.getElem_of_mem (hp2.mem_iff.1 hm)
  have hk' : k < b - a := by simp at hk; omega
  refine ⟨a + k, by omega, by omega, ?_⟩
  rw [← e, gi_lt (by omega)]
  simp only [List.getElem_take, List.getElem_drop]
end Go.Proofs.Ytcjghlplkbpjcaa
