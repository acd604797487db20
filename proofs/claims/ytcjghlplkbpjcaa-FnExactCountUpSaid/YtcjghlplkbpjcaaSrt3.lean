/- Plain facts on runs of one length that are sorted, and on numbers sorted by a key. -/
import Derived.Test.YtcjghlplkbpjcaaSrt2
namespace Go.Proofs.Ytcjghlplkbpjcaa

/-- between lo and hi, what lies in one block of bs places is sorted -/
def Runs (κ : Int → Int) (d : List Int) (bs lo hi : Nat) : Prop := ∀ x y, lo ≤ x → x < y → y < hi → x / bs = y / bs → κ (gi d x) ≤ κ (gi d y)

theorem div_of_mul {bs q x : Nat} (h1 : q * bs ≤ x) (h2 : x < q * bs + bs) : x / bs = q := by
  apply Nat.div_eq_of_lt_le
  · exact h1
  · rw [Nat.add_mul, Nat.one_mul]; exact h2

theorem SortedOn.sub {κ : Int → Int} {d : List Int} {a b a' b' : Nat} (h : SortedOn κ d a b) (h1 : a ≤ a') (h2 : b' ≤ b) : SortedOn κ d a' b' := fun x y hx hxy hy => h x y (by omega) hxy (by omega)
theorem SortedOn.same {κ : Int → Int} {d d' : List Int} {a b lo hi : Nat} (h : SortedOn κ d lo hi) (hs : SameOut d d' a b) (hd : hi ≤ a ∨ b ≤ lo) : SortedOn κ d' lo hi := fun x y hx hxy hy => by
  rw [hs.2 x (by omega), hs.2 y (by omega)]; exact h x y hx hxy hy
theorem SortedOn.short {κ : Int → Int} {d : List Int} {a b : Nat} (h : b ≤ a + 1) : SortedOn κ d a b := fun x y hx hxy hy => absurd hy (by omega)

theorem Runs.same {κ : Int → Int} {d d' : List Int} {bs a b lo hi : Nat} (h : Runs κ d bs lo hi) (hs : SameOut d d' a b) (hd : hi ≤ a ∨ b ≤ lo) : Runs κ d' bs lo hi := fun x y hx hxy hy he => by
  rw [hs.2 x (by omega), hs.2 y (by omega)]; exact h x y hx hxy hy he
theorem Runs.sub {κ : Int → Int} {d : List Int} {bs a b a' b' : Nat} (h : Runs κ d bs a b) (h1 : a ≤ a') (h2 : b' ≤ b) : Runs κ d bs a' b' := fun x y hx hxy hy => h x y (by omega) hxy (by omega)
/-- one block more -/
theorem Runs.more {κ : Int → Int} {d : List Int} {bs q a hi : Nat} (ha : a = q * bs) (h : Runs κ d bs 0 a) (hs : SortedOn κ d a hi) : Runs κ d bs 0 hi := fun x y hx hxy hy he => by
  by_cases e1 : y < a
  · exact h x y hx hxy e1 he
  · by_cases e2 : a ≤ x
    · exact hs x y e2 hxy hy
    · exfalso
      have hbs : 0 < bs := by
        rcases Nat.eq_zero_or_pos bs with h0 | h0
        · subst h0; simp at ha; omega
        · exact h0
      have h1 : x / bs < q := by rw [Nat.div_lt_iff_lt_mul hbs]; omega
      have h2 : q ≤ y / bs := by rw [Nat.le_div_iff_mul_le hbs]; omega
      omega
/-- a block out of runs -/
theorem Runs.at_ {κ : Int → Int} {d : List Int} {bs q a lo hi c : Nat} (ha : a = q * bs) (h : Runs κ d bs lo hi) (hlo : lo ≤ a) (hc : c ≤ hi) (hb : c ≤ a + bs) : SortedOn κ d a c := fun x y hx hxy hy =>
  h x y (by omega) hxy (by omega) (by rw [div_of_mul (q := q) (by omega) (by omega), div_of_mul (q := q) (by omega) (by omega)])
theorem Runs.all {κ : Int → Int} {d : List Int} {bs n : Nat} (h : Runs κ d bs 0 n) (hn : n ≤ bs) : SortedOn κ d 0 n := fun x y hx hxy hy =>
  h x y hx hxy hy (by rw [Nat.div_eq_of_lt (by omega), Nat.div_eq_of_lt (by omega)])
end Go.Proofs.Ytcjghlplkbpjcaa
