/- Parts of the proof. -/
import Derived.Test.YtolpiolnhgpjjaaGreatCJn7
import Derived.Test.YtolpiolnhgpjjaaGreatCJn9
import Derived.Lib.BitFns
set_option linter.unusedSimpArgs false
set_option linter.unusedVariables false
namespace Go.Proofs.YtolpiolnhgpjjaaGreat
section
def swp (d : List Int) (i j : Nat) : List Int := (d.set i (gi d j)).set j (gi d i)
theorem t7 (d : List Int) (i j : Nat) : (swp d i j).length = d.length := by simp [swp]
theorem E6 {d : List Int} {i j : Nat} (hi : i < d.length) (hj : j < d.length) (x : Nat) : gi (swp d i j) x = if x = j then gi d i else if x = i then gi d j else gi d x := by
 unfold swp;rw [K4 (by simpa using hj), K4 hi]
theorem Ar {d : List Int} {i j : Nat} (hi : i < d.length) (hj : j < d.length) : (swp d i j).Perm d := by
 unfold swp;rw [bo hi, bo hj];exact List.set_set_perm hi hj
def ip (d : List Int) (a b : Nat) : Nat → List Int
 | 0 => d
 | k + 1 => swp (ip d a b k) (a + k) (b + k)
theorem ia (d : List Int) (a b : Nat) : ∀ k, (ip d a b k).length = d.length
 | 0 => rfl
 | k + 1 => by rw [ip, t7, ia d a b k]
theorem oz {d : List Int} {a b : Nat} : ∀ k, a + k ≤ d.length → b + k ≤ d.length → (ip d a b k).Perm d
 | 0, _, _ => List.Perm.refl _
 | k + 1, h1, h2 => (Ar (by rw [ia]; omega) (by rw [ia]; omega)).trans (oz k (by omega) (by omega))
theorem r6 {d : List Int} {a b : Nat} : ∀ k, a + k ≤ b → b + k ≤ d.length → ∀ x, gi (ip d a b k) x = if a ≤ x ∧ x < a + k then gi d (x - a + b) else if b ≤ x ∧ x < b + k then gi d (x - b + a) else gi d x
 | 0, _, _, x => by rw [if_neg (by omega), if_neg (by omega)]; rfl
 | k + 1, h1, h2, x => by
  have ih := r6 (d := d) (a := a) (b := b) k (by omega) (by omega);rw [ip, E6 (by rw [ia]; omega) (by rw [ia]; omega)]
  by_cases e1 : x = b + k
  ·rw [if_pos e1, ih, if_neg (by omega), if_neg (by omega), if_neg (by omega), if_pos (by omega)]
   congr 1; omega
  ·rw [if_neg e1]
   by_cases e2 : x = a + k
   ·rw [if_pos e2, ih, if_neg (by omega), if_neg (by omega), if_pos (by omega)]
    congr 1; omega
   ·rw [if_neg e2, ih]
    by_cases e3 : a ≤ x ∧ x < a + k
    ·rw [if_pos e3, if_pos (by omega)]
    ·rw [if_neg e3]
     by_cases e4 : b ≤ x ∧ x < b + k
     ·rw [if_pos e4, if_neg (by omega), if_pos (by omega)]
     ·rw [if_neg e4, if_neg (by omega), if_neg (by omega)]
def iq (d : List Int) (a m b x : Nat) : Int := if a ≤ x ∧ x < a + (b - m) then gi d (x + (m - a)) else if a + (b - m) ≤ x ∧ x < b then gi d (x - (b - m)) else gi d x
theorem Jw {d : List Int} {m i j : Nat} (him : i ≤ m) (hj : 0 < j) (hij : j < i) (hd : m + j ≤ d.length) (x : Nat) :
 iq (ip d (m - i) m j) (m - (i - j)) m (m + j) x = iq d (m - i) m (m + j) x := by
 unfold iq;have hg := r6 (d := d) (a := m - i) (b := m) j (by omega) (by omega)
 by_cases e1 : m - i ≤ x ∧ x < m - i + j
 ·rw [if_neg (by omega), if_neg (by omega), if_pos (by omega), hg, if_pos (by omega)]
  congr 1; omega
 ·by_cases e2 : m - i + j ≤ x ∧ x < m - i + j + j
  ·rw [if_pos (by omega), if_neg (by omega), if_pos (by omega), hg];rw [if_neg (by omega), if_pos (by omega)]
   congr 1; omega
  ·by_cases e3 : m - i + j + j ≤ x ∧ x < m + j
   ·rw [if_neg (by omega), if_pos (by omega), if_neg (by omega), if_pos (by omega), hg, if_neg (by omega), if_neg (by omega)]
   ·rw [if_neg (by omega), if_neg (by omega), if_neg (by omega), if_neg (by omega), hg, if_neg (by omega), if_neg (by omega)]
theorem Hm {d : List Int} {m i j : Nat} (him : i ≤ m) (hi : 0 < i) (hij : i < j) (hd : m + j ≤ d.length) (x : Nat) :
 iq (ip d (m - i) (m + j - i) i) (m - i) m (m + (j - i)) x = iq d (m - i) m (m + j) x := by
 unfold iq;have hg := r6 (d := d) (a := m - i) (b := m + j - i) i (by omega) (by omega)
 by_cases e1 : m - i ≤ x ∧ x < m - i + (j - i)
 ·rw [if_pos (by omega), if_pos (by omega), hg, if_neg (by omega), if_neg (by omega)]
 ·by_cases e2 : m - i + (j - i) ≤ x ∧ x < m + (j - i)
  ·rw [if_neg (by omega), if_pos (by omega), if_pos (by omega), hg, if_pos (by omega)]
   congr 1; omega
  ·by_cases e3 : m + (j - i) ≤ x ∧ x < m + j
   ·rw [if_neg (by omega), if_neg (by omega), if_neg (by omega), if_pos (by omega), hg, if_neg (by omega), if_pos (by omega)]
    congr 1; omega
   ·rw [if_neg (by omega), if_neg (by omega), if_neg (by omega), if_neg (by omega), hg, if_neg (by omega), if_neg (by omega)]
theorem Nx {d : List Int} {m i : Nat} (him : i ≤ m) (hd : m + i ≤ d.length) (x : Nat) : gi (ip d (m - i) m i) x = iq d (m - i) m (m + i) x := by
 unfold iq;rw [r6 i (by omega) (by omega)]
 by_cases e1 : m - i ≤ x ∧ x < m - i + i
 ·rw [if_pos e1, if_pos (by omega)]; congr 1; omega
 ·rw [if_neg e1]
  by_cases e2 : m ≤ x ∧ x < m + i
  ·rw [if_pos e2, if_neg (by omega), if_pos (by omega)]; congr 1; omega
  ·rw [if_neg e2, if_neg (by omega), if_neg (by omega)]
def SortedOn (κ : Int → Int) (d : List Int) (a b : Nat) : Prop := ∀ i j, a ≤ i → i < j → j < b → κ (gi d i) ≤ κ (gi d j)
def SameOut (d d' : List Int) (a b : Nat) : Prop := d'.Perm d ∧ ∀ x, ¬ (a ≤ x ∧ x < b) → gi d' x = gi d x
theorem SameOut.refl (d : List Int) (a b : Nat) : SameOut d d a b := ⟨List.Perm.refl _, fun _ _ => rfl⟩
theorem SameOut.trans {d d' d'' : List Int} {a b : Nat} (h : SameOut d d' a b) (k : SameOut d' d'' a b) : SameOut d d'' a b := ⟨k.1.trans h.1, fun x hx => (k.2 x hx).trans (h.2 x hx)⟩
theorem SameOut.wider {d d' : List Int} {a b a' b' : Nat} (h : SameOut d d' a b) (h1 : a' ≤ a) (h2 : b ≤ b') : SameOut d d' a' b' := ⟨h.1, fun x hx => h.2 x (by omega)⟩
theorem SameOut.len {d d' : List Int} {a b : Nat} (h : SameOut d d' a b) : d'.length = d.length := h.1.length_eq
theorem SameOut.mem {d d' : List Int} {a b : Nat} (h : SameOut d d' a b) (hab : a ≤ b) (hb : b ≤ d.length) {x : Nat} (hx1 : a ≤ x) (hx2 : x < b) : ∃ y, a ≤ y ∧ y < b ∧ gi d' x = gi d y := by
 have hl := h.len
 have split : ∀ e : List Int, e.length = d.length → e = e.take a ++ ((e.drop a).take (b - a) ++ e.drop b) := by
  intro e he;have h1 : e.drop b = (e.drop a).drop (b - a) := by rw [List.drop_drop]; congr 1; omega
  rw [h1, List.take_append_drop, List.take_append_drop]
 have e1 : d'.take a = d.take a := by
  apply List.ext_getElem (by simp; omega);intro i h1 h2;simp only [List.getElem_take];have := h.2 i (by simp at h1; omega);rwa [bo (by simp at h1; omega), bo (by simp at h2; omega)] at this
 have e2 : d'.drop b = d.drop b := by
  apply List.ext_getElem (by simp; omega);intro i h1 h2;simp only [List.getElem_drop];have := h.2 (b + i) (by omega);rwa [bo (by simp at h1; omega), bo (by simp at h2; omega)] at this
 have hp := h.1;rw [split d' hl, split d rfl, e1, e2] at hp;have hp2 := (List.perm_append_right_iff _).1 ((List.perm_append_left_iff _).1 hp)
 have hm : gi d' x ∈ (d'.drop a).take (b - a) := by
  have hlt : x - a < ((d'.drop a).take (b - a)).length := by simp; omega
  have : ((d'.drop a).take (b - a))[x - a] = gi d' x := by
   rw [bo (by omega)];simp only [List.getElem_take, List.getElem_drop]
   congr 1; omega
  rw [← this];exact List.getElem_mem hlt
 obtain ⟨k, hk, e⟩ := List.getElem_of_mem (hp2.mem_iff.1 hm);have hk' : k < b - a := by simp at hk; omega
 refine ⟨a + k, by omega, by omega, ?_⟩;rw [← e, bo (by omega)];simp only [List.getElem_take, List.getElem_drop]
end
section
def rx (d : List Int) (a : Nat) : Nat → List Int
 | 0 => d
 | t + 1 => swp (rx d a t) (a + t) (a + t + 1)
theorem jm (d : List Int) (a : Nat) : ∀ t, (rx d a t).length = d.length
 | 0 => rfl
 | t + 1 => by rw [rx, t7, jm d a t]
theorem Et {d : List Int} {a : Nat} : ∀ t, a + t < d.length → (rx d a t).Perm d
 | 0, _ => List.Perm.refl _
 | t + 1, h => (Ar (by rw [jm]; omega) (by rw [jm]; omega)).trans (Et t (by omega))
theorem I6 {d : List Int} {a : Nat} : ∀ t, a + t < d.length → ∀ x, gi (rx d a t) x = if a ≤ x ∧ x < a + t then gi d (x + 1) else if x = a + t then gi d a else gi d x
 | 0, _, x => by
  rw [if_neg (by omega)]
  by_cases e : x = a + 0
  ·rw [if_pos e, e]; rfl
  ·rw [if_neg e]; rfl
 | t + 1, h, x => by
  have ih := I6 (d := d) (a := a) t (by omega);rw [rx, E6 (by rw [jm]; omega) (by rw [jm]; omega)]
  by_cases e1 : x = a + t + 1
  ·rw [if_pos e1, ih, if_neg (by omega), if_pos rfl, if_neg (by omega), if_pos (by omega)]
  ·rw [if_neg e1]
   by_cases e2 : x = a + t
   ·rw [if_pos e2, ih, if_neg (by omega), if_neg (by omega), if_pos (by omega)]
    congr 1; omega
   ·rw [if_neg e2, ih]
    by_cases e3 : a ≤ x ∧ x < a + t
    ·rw [if_pos e3, if_pos (by omega)]
    ·rw [if_neg e3, if_neg e2, if_neg (by omega), if_neg (by omega)]
def j7 (d : List Int) (m : Nat) : Nat → List Int
 | 0 => d
 | t + 1 => swp (j7 d m t) (m - t) (m - t - 1)
theorem f5 (d : List Int) (m : Nat) : ∀ t, (j7 d m t).length = d.length
 | 0 => rfl
 | t + 1 => by rw [j7, t7, f5 d m t]
theorem Eu {d : List Int} {m : Nat} (hm : m < d.length) : ∀ t, t ≤ m → (j7 d m t).Perm d
 | 0, _ => List.Perm.refl _
 | t + 1, h => (Ar (by rw [f5]; omega) (by rw [f5]; omega)).trans (Eu hm t (by omega))
theorem xd {d : List Int} {m : Nat} (hm : m < d.length) : ∀ t, t ≤ m → ∀ x, gi (j7 d m t) x = if m - t < x ∧ x ≤ m then gi d (x - 1) else if x = m - t then gi d m else gi d x
 | 0, _, x => by
  rw [if_neg (by omega)]
  by_cases e : x = m - 0
  ·rw [if_pos e, e]; rfl
  ·rw [if_neg e]; rfl
 | t + 1, h, x => by
  have ih := xd (d := d) hm t (by omega);rw [j7, E6 (by rw [f5]; omega) (by rw [f5]; omega)]
  by_cases e1 : x = m - t - 1
  ·rw [if_pos e1, ih, if_neg (by omega), if_pos rfl, if_neg (by omega), if_pos (by omega)]
  ·rw [if_neg e1]
   by_cases e2 : x = m - t
   ·rw [if_pos e2, ih, if_neg (by omega), if_neg (by omega), if_pos (by omega)]
    congr 1; omega
   ·rw [if_neg e2, ih]
    by_cases e3 : m - t < x ∧ x ≤ m
    ·rw [if_pos e3, if_pos (by omega)]
    ·rw [if_neg e3, if_neg e2, if_neg (by omega), if_neg (by omega)]
theorem Kk {κ : Int → Int} {d : List Int} {a b i : Nat} (hb : b ≤ d.length) (h1 : a < i) (h2 : i ≤ b) (hs : SortedOn κ d (a + 1) b)
 (hlo : ∀ x, a + 1 ≤ x → x < i → κ (gi d x) ≤ κ (gi d a)) (hhi : ∀ x, i ≤ x → x < b → κ (gi d a) ≤ κ (gi d x)) :
 SameOut d (rx d a (i - 1 - a)) a b ∧ SortedOn κ (rx d a (i - 1 - a)) a b := by
 have hg := I6 (d := d) (a := a) (i - 1 - a) (by omega);have ht : a + (i - 1 - a) = i - 1 := by omega
 rw [ht] at hg;refine ⟨⟨Et _ (by omega), fun x hx => ?_⟩, fun x y hx hxy hy => ?_⟩
 ·rw [hg, if_neg (by omega), if_neg (by omega)]
 ·rw [hg, hg]
  by_cases e1 : a ≤ x ∧ x < i - 1
  ·rw [if_pos e1]
   by_cases e2 : a ≤ y ∧ y < i - 1
   ·rw [if_pos e2]; exact hs _ _ (by omega) (by omega) (by omega)
   ·rw [if_neg e2]
    by_cases e3 : y = i - 1
    ·rw [if_pos e3]; exact hlo _ (by omega) (by omega)
    ·rw [if_neg e3]; exact hs _ _ (by omega) (by omega) (by omega)
  ·rw [if_neg e1]
   by_cases e3 : x = i - 1
   ·rw [if_pos e3, if_neg (by omega), if_neg (by omega)]; exact hhi _ (by omega) (by omega)
   ·rw [if_neg e3, if_neg (by omega), if_neg (by omega)]; exact hs _ _ (by omega) (by omega) (by omega)
theorem qu {κ : Int → Int} {d : List Int} {a m i : Nat} (hm : m < d.length) (h1 : a ≤ i) (h2 : i ≤ m) (hs : SortedOn κ d a m)
 (hlo : ∀ x, a ≤ x → x < i → κ (gi d x) ≤ κ (gi d m)) (hhi : ∀ x, i ≤ x → x < m → κ (gi d m) ≤ κ (gi d x)) :
 SameOut d (j7 d m (m - i)) a (m + 1) ∧ SortedOn κ (j7 d m (m - i)) a (m + 1) := by
 have hg := xd (d := d) hm (m - i) (by omega);have ht : m - (m - i) = i := by omega
 rw [ht] at hg;refine ⟨⟨Eu hm _ (by omega), fun x hx => ?_⟩, fun x y hx hxy hy => ?_⟩
 ·rw [hg, if_neg (by omega), if_neg (by omega)]
 ·rw [hg, hg]
  by_cases e1 : i < x ∧ x ≤ m
  ·rw [if_pos e1, if_pos (by omega)]; exact hs _ _ (by omega) (by omega) (by omega)
  ·rw [if_neg e1]
   by_cases e3 : x = i
   ·rw [if_pos e3]
    by_cases e2 : i < y ∧ y ≤ m
    ·rw [if_pos e2]; exact hhi _ (by omega) (by omega)
    ·omega
   ·rw [if_neg e3]
    by_cases e2 : i < y ∧ y ≤ m
    ·rw [if_pos e2]; exact hs _ _ (by omega) (by omega) (by omega)
    ·rw [if_neg e2]
     by_cases e4 : y = i
     ·rw [if_pos e4]; exact hlo _ (by omega) (by omega)
     ·rw [if_neg e4]; exact hs _ _ (by omega) (by omega) (by omega)
theorem Ib {κ : Int → Int} {d d1 : List Int} {a m b mid start en : Nat} (hmid : mid + m = start + en) (h1 : a ≤ start) (h2 : start ≤ m) (h3 : m ≤ en) (h4 : en ≤ b)
 (hs1 : SortedOn κ d a m) (hs2 : SortedOn κ d m b)
 (hA : a < start → en < b → κ (gi d (start - 1)) ≤ κ (gi d en)) (hB : m < en → start < m → κ (gi d (en - 1)) ≤ κ (gi d start))
 (hg : ∀ x, gi d1 x = iq d start m en x) :
 SortedOn κ d1 a start ∧ SortedOn κ d1 start mid ∧ SortedOn κ d1 mid en ∧ SortedOn κ d1 en b ∧ ∀ x y, a ≤ x → x < mid → mid ≤ y → y < b → κ (gi d1 x) ≤ κ (gi d1 y) := by
 have g1 : ∀ x, x < start → gi d1 x = gi d x := fun x hx => by rw [hg]; unfold iq; rw [if_neg (by omega), if_neg (by omega)]
 have g2 : ∀ x, start ≤ x → x < mid → gi d1 x = gi d (x + (m - start)) := fun x hx hx2 => by rw [hg]; unfold iq; rw [if_pos (by omega)]
 have g3 : ∀ x, mid ≤ x → x < en → gi d1 x = gi d (x - (en - m)) := fun x hx hx2 => by rw [hg]; unfold iq; rw [if_neg (by omega), if_pos (by omega)]
 have g4 : ∀ x, en ≤ x → gi d1 x = gi d x := fun x hx => by rw [hg]; unfold iq; rw [if_neg (by omega), if_neg (by omega)]
 have le1 : ∀ {x y}, a ≤ x → x ≤ y → y < m → κ (gi d x) ≤ κ (gi d y) := fun {x y} hx hxy hy => by
  by_cases e : x = y
  ·rw [e]; exact Int.le_refl _
  ·exact hs1 x y hx (by omega) hy
 have le2 : ∀ {x y}, m ≤ x → x ≤ y → y < b → κ (gi d x) ≤ κ (gi d y) := fun {x y} hx hxy hy => by
  by_cases e : x = y
  ·rw [e]; exact Int.le_refl _
  ·exact hs2 x y hx (by omega) hy
 refine ⟨fun x y hx hxy hy => ?_, fun x y hx hxy hy => ?_, fun x y hx hxy hy => ?_, fun x y hx hxy hy => ?_, fun x y hx hx2 hy hy2 => ?_⟩
 ·rw [g1 x (by omega), g1 y (by omega)]; exact le1 hx (by omega) (by omega)
 ·rw [g2 x (by omega) (by omega), g2 y (by omega) (by omega)]; exact le2 (by omega) (by omega) (by omega)
 ·rw [g3 x (by omega) (by omega), g3 y (by omega) (by omega)]; exact le1 (by omega) (by omega) (by omega)
 ·rw [g4 x (by omega), g4 y (by omega)]; exact le2 (by omega) (by omega) (by omega)
 ·by_cases e1 : x < start
  ·rw [g1 x e1]
   by_cases e2 : y < en
   ·rw [g3 y hy e2]; exact le1 (by omega) (by omega) (by omega)
   ·rw [g4 y (by omega)];have a1 := le1 (x := x) (y := start - 1) hx (by omega) (by omega);have a2 := hA (by omega) (by omega);have a3 := le2 (x := en) (y := y) (by omega) (by omega) hy2;omega
  ·rw [g2 x (by omega) hx2]
   by_cases e2 : y < en
   ·rw [g3 y hy e2];have a1 := le2 (x := x + (m - start)) (y := en - 1) (by omega) (by omega) (by omega);have a2 := hB (by omega) (by omega);have a3 := le1 (x := start) (y := y - (en - m)) (by omega) (by omega) (by omega);omega
   ·rw [g4 y (by omega)]; exact le2 (by omega) (by omega) (by omega)
theorem un {κ : Int → Int} {d1 d2 d3 : List Int} {a mid b : Nat} (hb : b ≤ d1.length) (ham : a ≤ mid) (hmb : mid ≤ b) (hlt : ∀ x y, a ≤ x → x < mid → mid ≤ y → y < b → κ (gi d1 x) ≤ κ (gi d1 y))
 (h2 : SameOut d1 d2 a mid) (hs2 : SortedOn κ d2 a mid) (h3 : SameOut d2 d3 mid b) (hs3 : SortedOn κ d3 mid b) : SortedOn κ d3 a b := by
 intro x y hx hxy hy
 by_cases e1 : y < mid
 ·rw [h3.2 x (by omega), h3.2 y (by omega)]; exact hs2 x y hx hxy e1
 ·by_cases e2 : mid ≤ x
  ·exact hs3 x y e2 hxy hy
  ·rw [h3.2 x (by omega)];obtain ⟨x', hx1, hx2, ex⟩ := h2.mem ham (by omega) hx (by omega);obtain ⟨y', hy1, hy2, ey⟩ := h3.mem hmb (by rw [h2.len]; exact hb) (by omega) hy;rw [ex, ey, h2.2 y' (by omega)];exact hlt x' y' hx1 hx2 hy1 hy2
end
section
def Runs (κ : Int → Int) (d : List Int) (bs lo hi : Nat) : Prop := ∀ x y, lo ≤ x → x < y → y < hi → x / bs = y / bs → κ (gi d x) ≤ κ (gi d y)
theorem Ce {bs q x : Nat} (h1 : q * bs ≤ x) (h2 : x < q * bs + bs) : x / bs = q := by
 apply Nat.div_eq_of_lt_le
 ·exact h1
 ·rw [Nat.add_mul, Nat.one_mul]; exact h2
theorem SortedOn.sub {κ : Int → Int} {d : List Int} {a b a' b' : Nat} (h : SortedOn κ d a b) (h1 : a ≤ a') (h2 : b' ≤ b) : SortedOn κ d a' b' := fun x y hx hxy hy => h x y (by omega) hxy (by omega)
theorem SortedOn.short {κ : Int → Int} {d : List Int} {a b : Nat} (h : b ≤ a + 1) : SortedOn κ d a b := fun x y hx hxy hy => absurd hy (by omega)
theorem Runs.same {κ : Int → Int} {d d' : List Int} {bs a b lo hi : Nat} (h : Runs κ d bs lo hi) (hs : SameOut d d' a b) (hd : hi ≤ a ∨ b ≤ lo) : Runs κ d' bs lo hi := fun x y hx hxy hy he => by
 rw [hs.2 x (by omega), hs.2 y (by omega)]; exact h x y hx hxy hy he
theorem Runs.sub {κ : Int → Int} {d : List Int} {bs a b a' b' : Nat} (h : Runs κ d bs a b) (h1 : a ≤ a') (h2 : b' ≤ b) : Runs κ d bs a' b' := fun x y hx hxy hy => h x y (by omega) hxy (by omega)
theorem Runs.more {κ : Int → Int} {d : List Int} {bs q a hi : Nat} (ha : a = q * bs) (h : Runs κ d bs 0 a) (hs : SortedOn κ d a hi) : Runs κ d bs 0 hi := fun x y hx hxy hy he => by
 by_cases e1 : y < a
 ·exact h x y hx hxy e1 he
 ·by_cases e2 : a ≤ x
  ·exact hs x y e2 hxy hy
  ·exfalso
   have hbs : 0 < bs := by
    rcases Nat.eq_zero_or_pos bs with h0 | h0
    ·subst h0; simp at ha; omega
    ·exact h0
   have h1 : x / bs < q := by rw [Nat.div_lt_iff_lt_mul hbs]; omega
   have h2 : q ≤ y / bs := by rw [Nat.le_div_iff_mul_le hbs]; omega
   omega
theorem Runs.at_ {κ : Int → Int} {d : List Int} {bs q a lo hi c : Nat} (ha : a = q * bs) (h : Runs κ d bs lo hi) (hlo : lo ≤ a) (hc : c ≤ hi) (hb : c ≤ a + bs) : SortedOn κ d a c := fun x y hx hxy hy =>
 h x y (by omega) hxy (by omega) (by rw [Ce (q := q) (by omega) (by omega), Ce (q := q) (by omega) (by omega)])
theorem Runs.all {κ : Int → Int} {d : List Int} {bs n : Nat} (h : Runs κ d bs 0 n) (hn : n ≤ bs) : SortedOn κ d 0 n := fun x y hx hxy hy =>
 h x y hx hxy hy (by rw [Nat.div_eq_of_lt (by omega), Nat.div_eq_of_lt (by omega)])
end
end Go.Proofs.YtolpiolnhgpjjaaGreat
