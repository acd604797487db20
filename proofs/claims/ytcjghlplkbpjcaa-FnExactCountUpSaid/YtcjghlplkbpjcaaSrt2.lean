/- Plain facts on merging by exchanges. -/
import Derived.Test.YtcjghlplkbpjcaaSrt
namespace Go.Proofs.Ytcjghlplkbpjcaa

/-- the number at a carried t places up -/
def bubR (d : List Int) (a : Nat) : Nat → List Int
  | 0 => d
  | t + 1 => swp (bubR d a t) (a + t) (a + t + 1)
theorem bubR_length (d : List Int) (a : Nat) : ∀ t, (bubR d a t).length = d.length
  | 0 => rfl
  | t + 1 => by rw [bubR, swp_length, bubR_length d a t]
theorem bubR_perm {d : List Int} {a : Nat} : ∀ t, a + t < d.length → (bubR d a t).Perm d
  | 0, _ => List.Perm.refl _
  | t + 1, h => (swp_perm (by rw [bubR_length]; omega) (by rw [bubR_length]; omega)).trans (bubR_perm t (by omega))
theorem bubR_get {d : List Int} {a : Nat} : ∀ t, a + t < d.length → ∀ x, gi (bubR d a t) x = if a ≤ x ∧ x < a + t then gi d (x + 1) else if x = a + t then gi d a else gi d x
  | 0, _, x => by
    rw [if_neg (by omega)]
    by_cases e : x = a + 0
    · rw [if_pos e, e]; rfl
    · rw [if_neg e]; rfl
  | t + 1, h, x => by
    have ih := bubR_get (d := d) (a := a) t (by omega)
    rw [bubR, swp_get (by rw [bubR_length]; omega) (by rw [bubR_length]; omega)]
    by_cases e1 : x = a + t + 1
    · rw [if_pos e1, ih, if_neg (by omega), if_pos rfl, if_neg (by omega), if_pos (by omega)]
    · rw [if_neg e1]
      by_cases e2 : x = a + t
      · rw [if_pos e2, ih, if_neg (by omega), if_neg (by omega), if_pos (by omega)]
        congr 1; omega
      · rw [if_neg e2, ih]
        by_cases e3 : a ≤ x ∧ x < a + t
        · rw [if_pos e3, if_pos (by omega)]
        · rw [if_neg e3, if_neg e2, if_neg (by omega), if_neg (by omega)]

/-- the number at m carried t places down -/
def bubL (d : List Int) (m : Nat) : Nat → List Int
  | 0 => d
  | t + 1 => swp (bubL d m t) (m - t) (m - t - 1)
theorem bubL_length (d : List Int) (m : Nat) : ∀ t, (bubL d m t).length = d.length
  | 0 => rfl
  | t + 1 => by rw [bubL, swp_length, bubL_length d m t]
theorem bubL_perm {d : List Int} {m : Nat} (hm : m < d.length) : ∀ t, t ≤ m → (bubL d m t).Perm d
  | 0, _ => List.Perm.refl _
  | t + 1, h => (swp_perm (by rw [bubL_length]; omega) (by rw [bubL_length]; omega)).trans (bubL_perm hm t (by omega))
theorem bubL_get {d : List Int} {m : Nat} (hm : m < d.length) : ∀ t, t ≤ m → ∀ x, gi (bubL d m t) x = if m - t < x ∧ x ≤ m then gi d (x - 1) else if x = m - t then gi d m else gi d x
  | 0, _, x => by
    rw [if_neg (by omega)]
    by_cases e : x = m - 0
    · rw [if_pos e, e]; rfl
    · rw [if_neg e]; rfl
  | t + 1, h, x => by
    have ih := bubL_get (d := d) hm t (by omega)
    rw [bubL, swp_get (by rw [bubL_length]; omega) (by rw [bubL_length]; omega)]
    by_cases e1 : x = m - t - 1
    · rw [if_pos e1, ih, if_neg (by omega), if_pos rfl, if_neg (by omega), if_pos (by omega)]
    · rw [if_neg e1]
      by_cases e2 : x = m - t
      · rw [if_pos e2, ih, if_neg (by omega), if_neg (by omega), if_pos (by omega)]
        congr 1; omega
      · rw [if_neg e2, ih]
        by_cases e3 : m - t < x ∧ x ≤ m
        · rw [if_pos e3, if_pos (by omega)]
        · rw [if_neg e3, if_neg e2, if_neg (by omega), if_neg (by omega)]

/-- one number ahead of a sorted run, carried to its place -/
theorem merge_left {κ : Int → Int} {d : List Int} {a b i : Nat} (hb : b ≤ d.length) (h1 : a < i) (h2 : i ≤ b) (hs : SortedOn κ d (a + 1) b)
    (hlo : ∀ x, a + 1 ≤ x → x < i → κ (gi d x) ≤ κ (gi d a)) (hhi : ∀ x, i ≤ x → x < b → κ (gi d a) ≤ κ (gi d x)) :
    SameOut d (bubR d a (i - 1 - a)) a b ∧ SortedOn κ (bubR d a (i - 1 - a)) a b := by
  have hg := bubR_get (d := d) (a := a) (i - 1 - a) (by omega)
  have ht : a + (i - 1 - a) = i - 1 := by omega
  rw [ht] at hg
  refine ⟨⟨bubR_perm _ (by omega), fun x hx => ?_⟩, fun x y hx hxy hy => ?_⟩
  · rw [hg, if_neg (by omega), if_neg (by omega)]
  · rw [hg, hg]
    by_cases e1 : a ≤ x ∧ x < i - 1
    · rw [if_pos e1]
      by_cases e2 : a ≤ y ∧ y < i - 1
      · rw [if_pos e2]; exact hs _ _ (by omega) (by omega) (by omega)
      · rw [if_neg e2]
        by_cases e3 : y = i - 1
        · rw [if_pos e3]; exact hlo _ (by omega) (by omega)
        · rw [if_neg e3]; exact hs _ _ (by omega) (by omega) (by omega)
    · rw [if_neg e1]
      by_cases e3 : x = i - 1
      · rw [if_pos e3, if_neg (by omega), if_neg (by omega)]; exact hhi _ (by omega) (by omega)
      · rw [if_neg e3, if_neg (by omega), if_neg (by omega)]; exact hs _ _ (by omega) (by omega) (by omega)

/-- one number behind a sorted run, carried to its place -/
theorem merge_right {κ : Int → Int} {d : List Int} {a m i : Nat} (hm : m < d.length) (h1 : a ≤ i) (h2 : i ≤ m) (hs : SortedOn κ d a m)
    (hlo : ∀ x, a ≤ x → x < i → κ (gi d x) ≤ κ (gi d m)) (hhi : ∀ x, i ≤ x → x < m → κ (gi d m) ≤ κ (gi d x)) :
    SameOut d (bubL d m (m - i)) a (m + 1) ∧ SortedOn κ (bubL d m (m - i)) a (m + 1) := by
  have hg := bubL_get (d := d) hm (m - i) (by omega)
  have ht : m - (m - i) = i := by omega
  rw [ht] at hg
  refine ⟨⟨bubL_perm hm _ (by omega), fun x hx => ?_⟩, fun x y hx hxy hy => ?_⟩
  · rw [hg, if_neg (by omega), if_neg (by omega)]
  · rw [hg, hg]
    by_cases e1 : i < x ∧ x ≤ m
    · rw [if_pos e1, if_pos (by omega)]; exact hs _ _ (by omega) (by omega) (by omega)
    · rw [if_neg e1]
      by_cases e3 : x = i
      · rw [if_pos e3]
        by_cases e2 : i < y ∧ y ≤ m
        · rw [if_pos e2]; exact hhi _ (by omega) (by omega)
        · omega
      · rw [if_neg e3]
        by_cases e2 : i < y ∧ y ≤ m
        · rw [if_pos e2]; exact hs _ _ (by omega) (by omega) (by omega)
        · rw [if_neg e2]
          by_cases e4 : y = i
          · rw [if_pos e4]; exact hlo _ (by omega) (by omega)
          · rw [if_neg e4]; exact hs _ _ (by omega) (by omega) (by omega)

/-- behind the rotation two pairs of runs are sorted, and the left pair lies below the right one -/
theorem merge_split {κ : Int → Int} {d d1 : List Int} {a m b mid start en : Nat} (hmid : mid + m = start + en) (h1 : a ≤ start) (h2 : start ≤ m) (h3 : m ≤ en) (h4 : en ≤ b)
    (hs1 : SortedOn κ d a m) (hs2 : SortedOn κ d m b)
    (hA : a < start → en < b → κ (gi d (start - 1)) ≤ κ (gi d en)) (hB : m < en → start < m → κ (gi d (en - 1)) ≤ κ (gi d start))
    (hg : ∀ x, gi d1 x = rotAt d start m en x) :
    SortedOn κ d1 a start ∧ SortedOn κ d1 start mid ∧ SortedOn κ d1 mid en ∧ SortedOn κ d1 en b ∧ ∀ x y, a ≤ x → x < mid → mid ≤ y → y < b → κ (gi d1 x) ≤ κ (gi d1 y) := by
  have g1 : ∀ x, x < start → gi d1 x = gi d x := fun x hx => by rw [hg]; unfold rotAt; rw [if_neg (by omega), if_neg (by omega)]
  have g2 : ∀ x, start ≤ x → x < mid → gi d1 x = gi d (x + (m - start)) := fun x hx hx2 => by rw [hg]; unfold rotAt; rw [if_pos (by omega)]
  have g3 : ∀ x, mid ≤ x → x < en → gi d1 x = gi d (x - (en - m)) := fun x hx hx2 => by rw [hg]; unfold rotAt; rw [if_neg (by omega), if_pos (by omega)]
  have g4 : ∀ x, en ≤ x → gi d1 x = gi d x := fun x hx => by rw [hg]; unfold rotAt; rw [if_neg (by omega), if_neg (by omega)]
  have le1 : ∀ {x y}, a ≤ x → x ≤ y → y < m → κ (gi d x) ≤ κ (gi d y) := fun {x y} hx hxy hy => by
    by_cases e : x = y
    · rw [e]; exact Int.le_refl _
    · exact hs1 x y hx (by omega) hy
  have le2 : ∀ {x y}, m ≤ x → x ≤ y → y < b → κ (gi d x) ≤ κ (gi d y) := fun {x y} hx hxy hy => by
    by_cases e : x = y
    · rw [e]; exact Int.le_refl _
    · exact hs2 x y hx (by omega) hy
  refine ⟨fun x y hx hxy hy => ?_, fun x y hx hxy hy => ?_, fun x y hx hxy hy => ?_, fun x y hx hxy hy => ?_, fun x y hx hx2 hy hy2 => ?_⟩
  · rw [g1 x (by omega), g1 y (by omega)]; exact le1 hx (by omega) (by omega)
  · rw [g2 x (by omega) (by omega), g2 y (by omega) (by omega)]; exact le2 (by omega) (by omega) (by omega)
  · rw [g3 x (by omega) (by omega), g3 y (by omega) (by omega)]; exact le1 (by omega) (by omega) (by omega)
  · rw [g4 x (by omega), g4 y (by omega)]; exact le2 (by omega) (by omega) (by omega)
  · by_cases e1 : x < start
    · rw [g1 x e1]
      by_cases e2 : y < en
      · rw [g3 y hy e2]; exact le1 (by omega) (by omega) (by omega)
      · rw [g4 y (by omega)]
        have a1 := le1 (x := x) (y := start - 1) hx (by omega) (by omega)
        have a2 := hA (by omega) (by omega)
        have a3 := le2 (x := en) (y := y) (by omega) (by omega) hy2
        omega
    · rw [g2 x (by omega) hx2]
      by_cases e2 : y < en
      · rw [g3 y hy e2]
        have a1 := le2 (x := x + (m - start)) (y := en - 1) (by omega) (by omega) (by omega)
        have a2 := hB (by omega) (by omega)
        have a3 := le1 (x := start) (y := y - (en - m)) (by omega) (by omega) (by omega)
        omega
      · rw [g4 y (by omega)]; exact le2 (by omega) (by omega) (by omega)

/-- two sorted halves, the left one below the right one, each turned within itself -/
theorem merge_join {κ : Int → Int} {d1 d2 d3 : List Int} {a mid b : Nat} (hb : b ≤ d1.length) (ham : a ≤ mid) (hmb : mid ≤ b) (hlt : ∀ x y, a ≤ x → x < mid → mid ≤ y → y < b → κ (gi d1 x) ≤ κ (gi d1 y))
    (h2 : SameOut d1 d2 a mid) (hs2 : SortedOn κ d2 a mid) (h3 : SameOut d2 d3 mid b) (hs3 : SortedOn κ d3 mid b) : SortedOn κ d3 a b := by
  intro x y hx hxy hy
  by_cases e1 : y < mid
  · rw [h3.2 x (by omega), h3.2 y (by omega)]; exact hs2 x y hx hxy e1
  · by_cases e2 : mid ≤ x
    · exact hs3 x y e2 hxy hy
    · rw [h3.2 x (by omega)]
      obtain ⟨x', hx1, hx2, ex⟩ := h2.mem ham (by omega) hx (by omega)
      obtain ⟨y', hy1, hy2, ey⟩ := h3.mem hmb (by rw [h2.len]; exact hb) (by omega) hy
      rw [ex, ey, h2.2 y' (by omega)]
      exact hlt x' y' hx1 hx2 hy1 hy2
end Go.Proofs.Ytcjghlplkbpjcaa
