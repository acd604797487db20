/- Parts of the proof. -/
import Derived.Test.YtolpiolnhgpjjaaGreatCMtr2
import Derived.Test.YtolpiolnhgpjjaaGreatCJn7
import Derived.Test.YtolpiolnhgpjjaaGreatCDix
set_option linter.unusedSimpArgs false
set_option linter.unusedVariables false
namespace Go.Proofs.YtolpiolnhgpjjaaGreat
section
section
variable {nb nb' : Nat → List Int} {ord : List Int} {n : Nat}
theorem js (hp : ff ord n = true) : ord.length = n ∧ (∀ i, i < n → 0 ≤ gi ord i ∧ gi ord i < n) ∧ ∀ i j, i < j → j < n → gi ord i ≠ gi ord j := by
 obtain ⟨h1, h2⟩ : jr ord n ord.length ∧ ord.length = n := by simpa [ff] using hp
 rw [h2] at h1;refine ⟨h2, fun i hi => ?_, fun i j hij hj he => ?_⟩
 ·have := ec.1 (h1 i hi).1; omega
 ·have h3 := (h1 j hj).2;rw [ju] at h3;refine h3 i (by rw [List.length_take]; omega) ?_;rw [← he];unfold gi;simp [List.getElem?_take, hij]
theorem Mn (hp : ff ord n = true) {v : Nat} (hv : v < n) : ∃ i, i < n ∧ gi ord i = v := by
 have h1 : (v : Int) ∈ ez n := by unfold ez; exact List.mem_map.2 ⟨v, List.mem_range.2 hv, rfl⟩
 obtain ⟨i, hi, he⟩ := List.getElem_of_mem ((J7 hp).symm.subset h1);exact ⟨i, by rw [← (js hp).1]; exact hi, by rw [bo hi, he]⟩
def cd (bad : Nat → List Int → Bool) (ord : List Int) : Nat → List Int
 | 0 => []
 | k + 1 => if bad (gi ord k).toNat (cd bad ord k) = true then cd bad ord k else cd bad ord k ++ [gi ord k]
theorem er {bad : Nat → List Int → Bool} : ∀ (k : Nat) {x : Int}, x ∈ cd bad ord k → ∃ i, i < k ∧ x = gi ord i
 | 0, x, h => by cases h
 | k + 1, x, h => by
  rw [cd] at h;split at h
  ·obtain ⟨i, h1, h2⟩ := er k h; exact ⟨i, by omega, h2⟩
  ·rcases List.mem_append.1 h with h | h
   ·obtain ⟨i, h1, h2⟩ := er k h; exact ⟨i, by omega, h2⟩
   ·exact ⟨k, by omega, by simpa using h⟩
theorem l7 {bad : Nat → List Int → Bool} : ∀ k, (cd bad ord k).length ≤ k
 | 0 => Nat.le_refl _
 | k + 1 => by
  have := l7 (bad := bad) k;rw [cd];split
  ·omega
  ·simp; omega
end
section
variable {N : Net} {k : Nat}
end
end
section
structure RankSet (ok : Nat → Bool) (nr : Nat → Nat → Bool) (rk : Nat → Nat) (S : Nat → Prop) : Prop where
 sub : ∀ v, S v → ok v = true
 iff : ∀ v, ok v = true → (S v ↔ ∀ w, S w → nr v w = true → ¬ rk w < rk v)
theorem RankSet.unique {ok : Nat → Bool} {nr : Nat → Nat → Bool} {rk : Nat → Nat} {S T : Nat → Prop} (h : RankSet ok nr rk S) (h' : RankSet ok nr rk T) : ∀ v, S v ↔ T v := by
 have key : ∀ n v, rk v = n → (S v ↔ T v) := by
  intro n
  induction n using Nat.strongRecOn with
  | ind n ih =>
   intro v hv
   by_cases hok : ok v = true
   ·rw [h.iff v hok, h'.iff v hok];exact ⟨fun g w hw hn hr => g w ((ih (rk w) (by omega) w rfl).2 hw) hn hr, fun g w hw hn hr => g w ((ih (rk w) (by omega) w rfl).1 hw) hn hr⟩
   ·exact ⟨fun g => absurd (h.sub v g) hok, fun g => absurd (h'.sub v g) hok⟩
 exact fun v => key _ v rfl
theorem RankSet.cover {ok : Nat → Bool} {nr : Nat → Nat → Bool} {rk : Nat → Nat} {S : Nat → Prop} (h : RankSet ok nr rk S) {v : Nat} (hok : ok v = true) (hv : ¬ S v) : ∃ w, S w ∧ nr v w = true ∧ rk w < rk v := Classical.byContradiction fun h1 => hv ((h.iff v hok).2 fun w hw hn hr => h1 ⟨w, hw, hn, hr⟩)
section
variable (nr : Nat → Nat → Bool) (rk : Nat → Nat)
def e9 (v : Nat) (O : List Int) : Bool := O.any fun x => nr v x.toNat && decide (rk x.toNat < rk v)
def nrB (v : Nat) (s : List Int) : Bool := s.any fun x => nr v x.toNat
def jnR (O : List Int) : List Int := O.filter fun x => !e9 nr rk x.toNat O
def opR (O : List Int) : List Int := O.filter fun x => !((jnR nr rk O).contains x || nrB nr x.toNat (jnR nr rk O))
def cp (O : List Int) : Nat → List Int
 | 0 => O
 | k + 1 => opR nr rk (cp O k)
def jp (O : List Int) : Nat → List Int
 | 0 => []
 | k + 1 => jp O k ++ jnR nr rk (cp nr rk O k)
end
section
variable {nr : Nat → Nat → Bool} {rk : Nat → Nat} {O : List Int}
theorem jt {x : Int} : x ∈ jnR nr rk O ↔ x ∈ O ∧ ∀ y ∈ O, nr x.toNat y.toNat = true → ¬ rk y.toNat < rk x.toNat := by
 simp [jnR, e9, List.mem_filter]
theorem wn {x : Int} : x ∈ opR nr rk O ↔ x ∈ O ∧ x ∉ jnR nr rk O ∧ ∀ y ∈ jnR nr rk O, nr x.toNat y.toNat = false := by
 simp [opR, nrB, List.mem_filter]
theorem Rs (h : O ≠ []) : ∃ x, x ∈ jnR nr rk O := by
 have key : ∀ n, ∀ x ∈ O, rk x.toNat = n → ∃ x, x ∈ jnR nr rk O := by
  intro n
  induction n using Nat.strongRecOn with
  | ind n ih =>
   intro x hx hn
   by_cases h1 : ∃ y ∈ O, nr x.toNat y.toNat = true ∧ rk y.toNat < rk x.toNat
   ·obtain ⟨y, hy, -, hr⟩ := h1;exact ih (rk y.toNat) (by omega) y hy rfl
   ·exact ⟨x, jt.2 ⟨hx, fun y hy h2 h3 => h1 ⟨y, hy, h2, h3⟩⟩⟩
 obtain ⟨x, hx⟩ := List.exists_mem_of_ne_nil _ h;exact key _ x hx rfl
theorem V6 (h : O ≠ []) : (opR nr rk O).length < O.length := by
 obtain ⟨x, hx⟩ := Rs (nr := nr) (rk := rk) h;refine Nat.lt_of_le_of_ne (List.length_filter_le _ _) fun he => ?_;have h2 := (List.length_filter_eq_length_iff.1 he) x (jt.1 hx).1;simp [hx] at h2
theorem Hw : ∀ k, (cp nr rk O k).length + k ≤ O.length ∨ cp nr rk O k = []
 | 0 => .inl (Nat.le_refl _)
 | k + 1 => by
  rcases Hw k with h | h
  ·by_cases hne : cp nr rk O k = []
   ·right; rw [cp, hne]; rfl
   ·left; have := V6 (nr := nr) (rk := rk) hne; rw [cp]; omega
  ·right; rw [cp, h]; rfl
structure RndOk (ok : Nat → Bool) (nr : Nat → Nat → Bool) (rk : Nat → Nat) (P S : List Int) : Prop where
 nat : ∀ x, x ∈ P ∨ x ∈ S → 0 ≤ x ∧ ok x.toNat = true
 all : ∀ v : Nat, ok v = true → (v : Int) ∈ S ∨ (v : Int) ∈ P ∨ ∃ w : Nat, (w : Int) ∈ S ∧ nr v w = true ∧ rk w < rk v
 ind : ∀ x ∈ S, ∀ y ∈ S, nr x.toNat y.toNat = false
 far : ∀ x ∈ P, ∀ y ∈ S, nr x.toNat y.toNat = false
theorem RndOk.step {ok : Nat → Bool} {P S : List Int} (h : RndOk ok nr rk P S) (hsym : ∀ v w, nr v w = nr w v) (hself : ∀ v, ok v = true → nr v v = false) (hinj : ∀ v w, ok v = true → ok w = true → rk v = rk w → v = w) :
 RndOk ok nr rk (opR nr rk P) (S ++ jnR nr rk P) := by
 have hj : ∀ x ∈ jnR nr rk P, ∀ y ∈ P, nr x.toNat y.toNat = true → rk x.toNat < rk y.toNat := fun x hx y hy hn => by
  obtain ⟨h1, h2⟩ := jt.1 hx;have h3 := h2 y hy hn;have h4 := (h.nat x (.inl h1)).2;have h5 := (h.nat y (.inl hy)).2
  rcases Nat.lt_trichotomy (rk x.toNat) (rk y.toNat) with h6 | h6 | h6
  ·exact h6
  ·have h7 := hinj _ _ h4 h5 h6;rw [h7, hself _ h5] at hn; cases hn
  ·exact absurd h6 h3
 have hjj : ∀ x ∈ jnR nr rk P, ∀ y ∈ jnR nr rk P, nr x.toNat y.toNat = false := fun x hx y hy => by
  cases hn : nr x.toNat y.toNat with
  | false => rfl
  | true =>
   have h1 := hj x hx y (jt.1 hy).1 hn;have h2 := hj y hy x (jt.1 hx).1 (by rw [hsym]; exact hn);omega
 refine ⟨fun x hx => ?_, fun v hv => ?_, fun x hx y hy => ?_, fun x hx y hy => ?_⟩
 ·rcases hx with hx | hx
  ·exact h.nat x (.inl (wn.1 hx).1)
  ·rcases List.mem_append.1 hx with hx | hx
   ·exact h.nat x (.inr hx)
   ·exact h.nat x (.inl (jt.1 hx).1)
 ·rcases h.all v hv with h1 | h1 | ⟨w, h1, h2⟩
  ·exact .inl (List.mem_append_left _ h1)
  ·by_cases h2 : (v : Int) ∈ jnR nr rk P
   ·exact .inl (List.mem_append_right _ h2)
   ·by_cases h3 : ∃ y ∈ jnR nr rk P, nr v y.toNat = true
    ·obtain ⟨y, hy, hn⟩ := h3;have hy0 := (h.nat y (.inl (jt.1 hy).1)).1;have h4 := hj y hy v h1 (by rw [hsym]; exact hn);refine .inr (.inr ⟨y.toNat, List.mem_append_right _ ?_, hn, h4⟩);rwa [show ((y.toNat : Nat) : Int) = y by omega]
    ·refine .inr (.inl (wn.2 ⟨h1, h2, fun y hy => ?_⟩))
     cases hn : nr ((v : Int)).toNat y.toNat with
     | false => rfl
     | true => exact absurd ⟨y, hy, hn⟩ h3
  ·exact .inr (.inr ⟨w, List.mem_append_left _ h1, h2⟩)
 ·rcases List.mem_append.1 hx with hx | hx <;> rcases List.mem_append.1 hy with hy | hy
  ·exact h.ind x hx y hy
  ·rw [hsym]; exact h.far y (jt.1 hy).1 x hx
  ·exact h.far x (jt.1 hx).1 y hy
  ·exact hjj x hx y hy
 ·obtain ⟨h1, h2, h3⟩ := wn.1 hx
  rcases List.mem_append.1 hy with hy | hy
  ·exact h.far x h1 y hy
  ·exact h3 y hy
theorem RndOk.start {ok : Nat → Bool} (h : ∀ x, x ∈ O ↔ 0 ≤ x ∧ ok x.toNat = true) : RndOk ok nr rk O [] :=
 ⟨fun x hx => hx.elim (fun hx => (h x).1 hx) (fun hx => (List.not_mem_nil hx).elim), fun v hv => .inr (.inl ((h v).2 ⟨Int.natCast_nonneg v, hv⟩)), fun x hx => (List.not_mem_nil hx).elim, fun x _ y hy => (List.not_mem_nil hy).elim⟩
theorem RndOk.all_k {ok : Nat → Bool} (h : ∀ x, x ∈ O ↔ 0 ≤ x ∧ ok x.toNat = true) (hsym : ∀ v w, nr v w = nr w v) (hself : ∀ v, ok v = true → nr v v = false) (hinj : ∀ v w, ok v = true → ok w = true → rk v = rk w → v = w) : ∀ k, RndOk ok nr rk (cp nr rk O k) (jp nr rk O k)
 | 0 => RndOk.start h
 | k + 1 => (RndOk.all_k h hsym hself hinj k).step hsym hself hinj
theorem RndOk.rank {ok : Nat → Bool} {S : List Int} (h : RndOk ok nr rk [] S) : RankSet ok nr rk fun v => (v : Int) ∈ S :=
 ⟨fun v hv => (h.nat v (.inr hv)).2, fun v hv => by
  constructor
  ·intro h1 w h2 hn;have h3 := h.ind v h1 w h2;rw [Int.toNat_natCast, Int.toNat_natCast, hn] at h3;cases h3
  ·intro h1
   rcases h.all v hv with h2 | h2 | ⟨w, h2, h3, h4⟩
   ·exact h2
   ·cases h2
   ·exact absurd h4 (h1 w h2 h3)⟩
end
section
variable {bad : Nat → List Int → Bool} {ord : List Int} {n : Nat}
theorem ll : ∀ {k j : Nat}, j ≤ k → ∀ {x : Int}, x ∈ cd bad ord j → x ∈ cd bad ord k
 | 0, j, h, x, hx => by
  obtain rfl : j = 0 := by omega
  exact hx
 | k + 1, j, h, x, hx => by
  rcases Nat.lt_or_ge k j with h1 | h1
  ·obtain rfl : j = k + 1 := by omega
   exact hx
  ·have := ll h1 hx;rw [cd]; split
   ·exact this
   ·exact List.mem_append_left _ this
theorem si (hp : ff ord n = true) {i : Nat} (hi : i < n) : gi ord i ∈ cd bad ord n ↔ bad (gi ord i).toNat (cd bad ord i) = false := by
 obtain ⟨hl, h0, hd⟩ := js hp
 have hne : ∀ a b, a < n → b < n → gi ord a = gi ord b → a = b := fun a b ha hb h => by
  rcases Nat.lt_trichotomy a b with h1 | h1 | h1
  ·exact absurd h (hd a b h1 hb)
  ·exact h1
  ·exact absurd h.symm (hd b a h1 ha)
 have hin : ∀ k, k ≤ n → i < k → gi ord i ∈ cd bad ord k → gi ord i ∈ cd bad ord (i + 1) := by
  intro k
  induction k with
  | zero => intro _ h; omega
  | succ k ih =>
   intro hk h1 h2
   rcases Nat.lt_or_ge i k with h3 | h3
   ·rw [cd] at h2;split at h2
    ·exact ih (by omega) h3 h2
    ·rcases List.mem_append.1 h2 with h2 | h2
     ·exact ih (by omega) h3 h2
     ·have := hne i k hi (by omega) (by simpa using h2); omega
   ·obtain rfl : k = i := by omega
    exact h2
 have hno : gi ord i ∉ cd bad ord i := fun h => by
  obtain ⟨j, h1, h2⟩ := er i h;have := hne i j hi (by omega) h2; omega
 constructor
 ·intro h;have h1 := hin n (Nat.le_refl _) hi h;rw [cd] at h1
  cases hb : bad (gi ord i).toNat (cd bad ord i) with
  | false => rfl
  | true => rw [if_pos hb] at h1; exact absurd h1 hno
 ·intro h;refine ll (j := i + 1) hi ?_;rw [cd, h]; simp
theorem O5 {ok : Nat → Bool} {nr : Nat → Nat → Bool} {rk : Nat → Nat} (hp : ff ord n = true) (hok : ∀ v, ok v = true → v < n) (hbad : ∀ v s, v < n → (∀ x ∈ s, 0 ≤ x) → (bad v s = false ↔ ok v = true ∧ ∀ x ∈ s, nr v x.toNat = false)) (hrk : ∀ i j, i < n → j < n → (rk (gi ord i).toNat < rk (gi ord j).toNat ↔ i < j)) : RankSet ok nr rk fun v => (v : Int) ∈ cd bad ord n := by
 obtain ⟨hl, h0, hd⟩ := js hp
 have hpos : ∀ k, k ≤ n → ∀ x ∈ cd bad ord k, 0 ≤ x := fun k hk x hx => by
  obtain ⟨i, hi, rfl⟩ := er k hx;exact (h0 i (by omega)).1
 refine ⟨fun v hv => ?_, fun v hv => ?_⟩
 ·obtain ⟨i, hi, he⟩ := er n hv;have h1 := (si (bad := bad) hp hi).1 (he ▸ hv);rw [← he, Int.toNat_natCast] at h1;exact ((hbad v _ (by have := h0 i hi; omega) (hpos i (by omega))).1 h1).1
 ·obtain ⟨i, hi, he⟩ := Mn hp (hok v hv)
  have hat : ((v : Int) ∈ cd bad ord n) ↔ ∀ x ∈ cd bad ord i, nr v x.toNat = false := by
   rw [← he, si hp hi, he, Int.toNat_natCast, hbad v _ (hok v hv) (hpos i (by omega))];exact ⟨fun h => h.2, fun h => ⟨hv, h⟩⟩
  have hrv : (gi ord i).toNat = v := by omega
  rw [hat];constructor
  ·intro h w hw hn hr;obtain ⟨j, hj, hje⟩ := er n hw;have hrw : (gi ord j).toNat = w := by omega
   have h1 := (hrk j i hj hi).1 (by rw [hrw, hrv]; exact hr);have h2 := (si (bad := bad) hp hj).1 (hje ▸ hw);have h3 : (w : Int) ∈ cd bad ord (j + 1) := by rw [cd, h2, hje]; simp
   have h4 := h w (ll (by omega) h3);simp at h4; rw [h4] at hn; cases hn
  ·intro h x hx;obtain ⟨j, hj, hje⟩ := er i hx;have hjn := h0 j (by omega);have h1 := ll (bad := bad) (ord := ord) (k := n) (by omega) hx;have h2 := (hrk j i (by omega) hi).2 hj;rw [hrv] at h2
   cases hn : nr v x.toNat with
   | false => rfl
   | true =>
    refine absurd ?_ (h x.toNat (by rwa [show ((x.toNat : Nat) : Int) = x by omega]) hn);rw [hje]; exact h2
end
end
end Go.Proofs.YtolpiolnhgpjjaaGreat
