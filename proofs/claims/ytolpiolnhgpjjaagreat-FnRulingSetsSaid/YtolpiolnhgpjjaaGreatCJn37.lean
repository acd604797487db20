/- Parts of the proof. -/
import Derived.Test.YtolpiolnhgpjjaaGreatCMtr2
import Derived.Test.YtolpiolnhgpjjaaGreatCJn7
import Derived.Test.YtolpiolnhgpjjaaGreatCJn36
set_option linter.unusedSimpArgs false
set_option linter.unusedVariables false
namespace Go.Proofs.YtolpiolnhgpjjaaGreat
section
def atL (out ws : List Int) : List Int := ws.map fun w => gi out w.toNat
theorem Qu (out ws : List Int) (w : Int) : atL out (ws ++ [w]) = atL out ws ++ [gi out w.toNat] := by simp [atL]
theorem K6 (out ws : List Int) : (atL out ws).length = ws.length := by simp [atL]
section
variable {nb nb' : Nat → List Int} {ord : List Int} {n : Nat}
theorem l9 (hp : dc ord n = true) : ord.length = n ∧ (∀ i, i < n → 0 ≤ gi ord i ∧ gi ord i < n) ∧ ∀ i j, i < j → j < n → gi ord i ≠ gi ord j := by
 obtain ⟨h1, h2⟩ : gw ord n ord.length ∧ ord.length = n := by simpa [dc] using hp
 rw [h2] at h1;refine ⟨h2, fun i hi => ?_, fun i j hij hj he => ?_⟩
 ·have := ce.1 (h1 i hi).1; omega
 ·have h3 := (h1 j hj).2;rw [n8] at h3;refine h3 i (by rw [List.length_take]; omega) ?_;rw [← he];unfold gi;simp [List.getElem?_take, hij]
theorem xj (hp : dc ord n = true) {v : Nat} (hv : v < n) : ∃ i, i < n ∧ gi ord i = v := by
 have h1 : (v : Int) ∈ dh n := by unfold dh; exact List.mem_map.2 ⟨v, List.mem_range.2 hv, rfl⟩
 obtain ⟨i, hi, he⟩ := List.getElem_of_mem ((Hw hp).symm.subset h1);exact ⟨i, by rw [← (l9 hp).1]; exact hi, by rw [bm hi, he]⟩
def co (bad : Nat → List Int → Bool) (ord : List Int) : Nat → List Int
 | 0 => []
 | k + 1 => if bad (gi ord k).toNat (co bad ord k) = true then co bad ord k else co bad ord k ++ [gi ord k]
theorem fp {bad : Nat → List Int → Bool} : ∀ (k : Nat) {x : Int}, x ∈ co bad ord k → ∃ i, i < k ∧ x = gi ord i
 | 0, x, h => by cases h
 | k + 1, x, h => by
  rw [co] at h;split at h
  ·obtain ⟨i, h1, h2⟩ := fp k h; exact ⟨i, by omega, h2⟩
  ·rcases List.mem_append.1 h with h | h
   ·obtain ⟨i, h1, h2⟩ := fp k h; exact ⟨i, by omega, h2⟩
   ·exact ⟨k, by omega, by simpa using h⟩
theorem n9 {bad : Nat → List Int → Bool} : ∀ k, (co bad ord k).length ≤ k
 | 0 => Nat.le_refl _
 | k + 1 => by
  have := n9 (bad := bad) k;rw [co];split
  ·omega
  ·simp; omega
theorem Fr {bad : Nat → List Int → Bool} (h : ∀ v, bad v [] = false) : ∀ k, 0 < k → 0 < (co bad ord k).length
 | k + 1, _ => by
  rw [co];split
  ·rename_i hb
   rcases Nat.eq_zero_or_pos k with rfl | hk
   ·rw [co, h] at hb; cases hb
   ·exact Fr h k hk
  ·simp
end
section
variable {N : Net} {k : Nat}
end
end
section
structure RankSet (ok : Nat → Bool) (nr : Nat → Nat → Bool) (rk : Nat → Nat) (S : Nat → Prop) : Prop where
 sub : ∀ v, S v → ok v = true
 iff : ∀ v, ok v = true → (S v ↔ ∀ w, S w → nr v w = true → ¬ rk w < rk v)
theorem RankSet.apart {ok : Nat → Bool} {nr : Nat → Nat → Bool} {rk : Nat → Nat} {S : Nat → Prop} (h : RankSet ok nr rk S) (hsym : ∀ v w, ok v = true → ok w = true → nr v w = nr w v) (hinj : ∀ v w, ok v = true → ok w = true → rk v = rk w → v = w) {v w : Nat} (hv : S v) (hw : S w) (hne : v ≠ w) : nr v w = false := by
 have h1 := h.sub v hv;have h2 := h.sub w hw
 cases hn : nr v w with
 | false => rfl
 | true =>
  rcases Nat.lt_trichotomy (rk v) (rk w) with h3 | h3 | h3
  ·exact absurd h3 ((h.iff w h2).1 hw v hv (by rw [← hsym v w h1 h2]; exact hn))
  ·exact absurd (hinj v w h1 h2 h3) hne
  ·exact absurd h3 ((h.iff v h1).1 hv w hw hn)
theorem RankSet.cover {ok : Nat → Bool} {nr : Nat → Nat → Bool} {rk : Nat → Nat} {S : Nat → Prop} (h : RankSet ok nr rk S) {v : Nat} (hok : ok v = true) (hv : ¬ S v) : ∃ w, S w ∧ nr v w = true ∧ rk w < rk v := Classical.byContradiction fun h1 => hv ((h.iff v hok).2 fun w hw hn hr => h1 ⟨w, hw, hn, hr⟩)
section
variable (nr : Nat → Nat → Bool) (rk : Nat → Nat)
end
section
variable {nr : Nat → Nat → Bool} {rk : Nat → Nat} {O : List Int}
end
section
variable {bad : Nat → List Int → Bool} {ord : List Int} {n : Nat}
theorem ph : ∀ {k j : Nat}, j ≤ k → ∀ {x : Int}, x ∈ co bad ord j → x ∈ co bad ord k
 | 0, j, h, x, hx => by
  obtain rfl : j = 0 := by omega
  exact hx
 | k + 1, j, h, x, hx => by
  rcases Nat.lt_or_ge k j with h1 | h1
  ·obtain rfl : j = k + 1 := by omega
   exact hx
  ·have := ph h1 hx;rw [co]; split
   ·exact this
   ·exact List.mem_append_left _ this
theorem Di (hp : dc ord n = true) {i : Nat} (hi : i < n) : gi ord i ∈ co bad ord n ↔ bad (gi ord i).toNat (co bad ord i) = false := by
 obtain ⟨hl, h0, hd⟩ := l9 hp
 have hne : ∀ a b, a < n → b < n → gi ord a = gi ord b → a = b := fun a b ha hb h => by
  rcases Nat.lt_trichotomy a b with h1 | h1 | h1
  ·exact absurd h (hd a b h1 hb)
  ·exact h1
  ·exact absurd h.symm (hd b a h1 ha)
 have hin : ∀ k, k ≤ n → i < k → gi ord i ∈ co bad ord k → gi ord i ∈ co bad ord (i + 1) := by
  intro k
  induction k with
  | zero => intro _ h; omega
  | succ k ih =>
   intro hk h1 h2
   rcases Nat.lt_or_ge i k with h3 | h3
   ·rw [co] at h2;split at h2
    ·exact ih (by omega) h3 h2
    ·rcases List.mem_append.1 h2 with h2 | h2
     ·exact ih (by omega) h3 h2
     ·have := hne i k hi (by omega) (by simpa using h2); omega
   ·obtain rfl : k = i := by omega
    exact h2
 have hno : gi ord i ∉ co bad ord i := fun h => by
  obtain ⟨j, h1, h2⟩ := fp i h;have := hne i j hi (by omega) h2; omega
 constructor
 ·intro h;have h1 := hin n (Nat.le_refl _) hi h;rw [co] at h1
  cases hb : bad (gi ord i).toNat (co bad ord i) with
  | false => rfl
  | true => rw [if_pos hb] at h1; exact absurd h1 hno
 ·intro h;refine ph (j := i + 1) hi ?_;rw [co, h]; simp
theorem Mp {ok : Nat → Bool} {nr : Nat → Nat → Bool} {rk : Nat → Nat} (hp : dc ord n = true) (hok : ∀ v, ok v = true → v < n) (hbad : ∀ v s, v < n → (∀ x ∈ s, 0 ≤ x) → (bad v s = false ↔ ok v = true ∧ ∀ x ∈ s, nr v x.toNat = false)) (hrk : ∀ i j, i < n → j < n → (rk (gi ord i).toNat < rk (gi ord j).toNat ↔ i < j)) : RankSet ok nr rk fun v => (v : Int) ∈ co bad ord n := by
 obtain ⟨hl, h0, hd⟩ := l9 hp
 have hpos : ∀ k, k ≤ n → ∀ x ∈ co bad ord k, 0 ≤ x := fun k hk x hx => by
  obtain ⟨i, hi, rfl⟩ := fp k hx;exact (h0 i (by omega)).1
 refine ⟨fun v hv => ?_, fun v hv => ?_⟩
 ·obtain ⟨i, hi, he⟩ := fp n hv;have h1 := (Di (bad := bad) hp hi).1 (he ▸ hv);rw [← he, Int.toNat_natCast] at h1;exact ((hbad v _ (by have := h0 i hi; omega) (hpos i (by omega))).1 h1).1
 ·obtain ⟨i, hi, he⟩ := xj hp (hok v hv)
  have hat : ((v : Int) ∈ co bad ord n) ↔ ∀ x ∈ co bad ord i, nr v x.toNat = false := by
   rw [← he, Di hp hi, he, Int.toNat_natCast, hbad v _ (hok v hv) (hpos i (by omega))];exact ⟨fun h => h.2, fun h => ⟨hv, h⟩⟩
  have hrv : (gi ord i).toNat = v := by omega
  rw [hat];constructor
  ·intro h w hw hn hr;obtain ⟨j, hj, hje⟩ := fp n hw;have hrw : (gi ord j).toNat = w := by omega
   have h1 := (hrk j i hj hi).1 (by rw [hrw, hrv]; exact hr);have h2 := (Di (bad := bad) hp hj).1 (hje ▸ hw);have h3 : (w : Int) ∈ co bad ord (j + 1) := by rw [co, h2, hje]; simp
   have h4 := h w (ph (by omega) h3);simp at h4; rw [h4] at hn; cases hn
  ·intro h x hx;obtain ⟨j, hj, hje⟩ := fp i hx;have hjn := h0 j (by omega);have h1 := ph (bad := bad) (ord := ord) (k := n) (by omega) hx;have h2 := (hrk j i (by omega) hi).2 hj;rw [hrv] at h2
   cases hn : nr v x.toNat with
   | false => rfl
   | true =>
    refine absurd ?_ (h x.toNat (by rwa [show ((x.toNat : Nat) : Int) = x by omega]) hn);rw [hje]; exact h2
end
end
section
def nrs (far S : List Int) : Nat → Int
 | 0 => -1
 | k + 1 => if 0 ≤ gi far (gi S k).toNat ∧ (nrs far S k < 0 ∨ gi far (gi S k).toNat < gi far (nrs far S k).toNat) then gi S k else nrs far S k
section
variable {far S : List Int}
theorem C4 (h0 : ∀ j, j < S.length → 0 ≤ gi S j) : ∀ k, k ≤ S.length → (nrs far S k = -1 ∧ ∀ j, j < k → gi far (gi S j).toNat < 0) ∨ (∃ j, j < k ∧ nrs far S k = gi S j ∧ 0 ≤ gi far (gi S j).toNat ∧ ∀ i, i < k → 0 ≤ gi far (gi S i).toNat → gi far (gi S j).toNat ≤ gi far (gi S i).toNat)
 | 0, _ => .inl ⟨rfl, fun j hj => absurd hj (Nat.not_lt_zero _)⟩
 | k + 1, hk => by
  have ih := C4 h0 k (by omega);rw [nrs]
  by_cases hc : 0 ≤ gi far (gi S k).toNat ∧ (nrs far S k < 0 ∨ gi far (gi S k).toNat < gi far (nrs far S k).toNat)
  ·rw [if_pos hc];refine .inr ⟨k, by omega, rfl, hc.1, fun i hi hf => ?_⟩
   rcases Nat.lt_or_ge i k with h1 | h1
   ·rcases ih with ⟨-, h2⟩ | ⟨j, h2, h3, h4, h5⟩
    ·have := h2 i h1; omega
    ·have h6 := h5 i h1 hf
     rcases hc.2 with h7 | h7
     ·rw [h3] at h7; have := h0 j (by omega); omega
     ·rw [h3] at h7; omega
   ·obtain rfl : i = k := by omega
    exact Int.le_refl _
  ·rw [if_neg hc]
   rcases ih with ⟨h1, h2⟩ | ⟨j, h2, h3, h4, h5⟩
   ·refine .inl ⟨h1, fun j hj => ?_⟩
    rcases Nat.lt_or_ge j k with h3 | h3
    ·exact h2 j h3
    ·obtain rfl : j = k := by omega
     have : ¬ 0 ≤ gi far (gi S j).toNat := fun h4 => hc ⟨h4, .inl (by omega)⟩;omega
   ·refine .inr ⟨j, by omega, h3, h4, fun i hi hf => ?_⟩
    rcases Nat.lt_or_ge i k with h6 | h6
    ·exact h5 i h6 hf
    ·obtain rfl : i = k := by omega
     have h7 : ¬ gi far (gi S i).toNat < gi far (nrs far S i).toNat := fun h8 => hc ⟨hf, .inr h8⟩;rw [h3] at h7; omega
theorem Oy (h0 : ∀ j, j < S.length → 0 ≤ gi S j) {i : Nat} (hi : i < S.length) (hf : 0 ≤ gi far (gi S i).toNat) : ∃ j, j < S.length ∧ nrs far S S.length = gi S j ∧ 0 ≤ gi far (gi S j).toNat ∧ ∀ i, i < S.length → 0 ≤ gi far (gi S i).toNat → gi far (gi S j).toNat ≤ gi far (gi S i).toNat := by
 rcases C4 (far := far) h0 S.length (Nat.le_refl _) with ⟨-, h2⟩ | h
 ·have := h2 i hi; omega
 ·exact h
end
end
end Go.Proofs.YtolpiolnhgpjjaaGreat
