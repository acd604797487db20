/- Tables of views: when a list of rows is one, the rows put in one by one, the rows sorted. No program in sight. -/
import Derived.Test.YtclkboemgneojaaTv
namespace Go.Proofs.Ytclkboemgneojaa
open Go.RowKit

theorem bytesLess_lt : ∀ (x y : List UInt8), Op.bytesLess x y = decide (x < y)
  | [], [] => by simp [Op.bytesLess]
  | _ :: _, [] => by simp [Op.bytesLess]
  | [], _ :: _ => by simp [Op.bytesLess]
  | a :: x, b :: y => by
    rw [Op.bytesLess, bytesLess_lt x y]
    simp only [List.cons_lt_cons_iff]
    by_cases h1 : a < b <;> by_cases h2 : a = b <;> by_cases h3 : x < y <;> simp [h1, h2, h3]
/-- Go's '<' on strings -/
def lessB (a b : ByteArray) : Bool := Op.bytesLess a.toList b.toList
theorem lessB_eq (a b : ByteArray) : lessB a b = decide (a.data.toList < b.data.toList) := by
  unfold lessB; rw [bytesLess_lt, ByteArray.toList_eq, ByteArray.toList_eq]
theorem bytes_ext {a b : ByteArray} (h : a.data.toList = b.data.toList) : a = b := by
  cases a; cases b; simp at h; rw [h]
theorem lessB_irrefl (a : ByteArray) : lessB a a = false := by rw [lessB_eq]; simp [List.lt_irrefl]
theorem lessB_trans {a b c : ByteArray} (h1 : lessB a b = true) (h2 : lessB b c = true) : lessB a c = true := by
  rw [lessB_eq, decide_eq_true_eq] at *
  exact List.lt_trans h1 h2
theorem lessB_total {a b : ByteArray} (h1 : lessB a b = false) (h2 : lessB b a = false) : a = b := by
  rw [lessB_eq, decide_eq_false_iff_not] at *
  exact bytes_ext (List.le_antisymm (List.not_lt.1 h2) (List.not_lt.1 h1))
theorem lessB_asymm {a b : ByteArray} (h1 : lessB a b = true) : lessB b a = false := by
  cases h : lessB b a
  · rfl
  · have := lessB_trans h1 h; rw [lessB_irrefl] at this; cases this
theorem lessB_ne {a b : ByteArray} (h1 : lessB a b = true) : a ≠ b := fun e => by rw [e, lessB_irrefl] at h1; cases h1

abbrev RowT := ByteArray × Int
/-- strictly ascending views -/
def Asc (l : List RowT) : Prop := l.Pairwise fun a b => lessB a.1 b.1 = true
theorem asc_iff {l : List RowT} : Asc l ↔ ∀ i, i + 1 < l.length → lessB (ga l i).1 (ga l (i + 1)).1 = true := by
  induction l with
  | nil => simp [Asc]
  | cons x l ih =>
    unfold Asc at ih ⊢
    rw [List.pairwise_cons, ih]
    constructor
    · rintro ⟨h1, h2⟩ i hi
      cases i with
      | zero => have := h1 (ga l 0) (ga_mem (by simpa using hi)); simpa [ga] using this
      | succ i => have := h2 i (by simpa using hi); simpa [ga] using this
    · intro h
      have h2 : ∀ i, i + 1 < l.length → lessB (ga l i).1 (ga l (i + 1)).1 = true := fun i hi => by have := h (i + 1) (by simpa using hi); simpa [ga] using this
      refine ⟨fun y hy => ?_, h2⟩
      obtain ⟨j, hj, rfl⟩ := List.getElem_of_mem hy
      have key : ∀ j, j < l.length → lessB x.1 (ga l j).1 = true := by
        intro j
        induction j with
        | zero => intro hj; have := h 0 (by simpa using hj); simpa [ga] using this
        | succ j ihj => intro hj; exact lessB_trans (ihj (by omega)) (h2 j hj)
      have := key j hj
      rwa [ga_lt hj] at this
/-- two ascending lists of the same rows are one -/
theorem asc_unique {l m : List RowT} (hl : Asc l) (hm : Asc m) (h : ∀ x, x ∈ l ↔ x ∈ m) : l = m := by
  have nl : ∀ {l : List RowT}, Asc l → l.Pairwise (fun a b => a ≠ b) := fun hl => List.Pairwise.imp (fun {a b} h (e : a = b) => lessB_ne h (congrArg Prod.fst e)) hl
  have hp : l.Perm m := (List.perm_ext_iff_of_nodup (nl hl) (nl hm)).2 h
  refine List.Perm.eq_of_pairwise (le := fun (a b : RowT) => lessB a.1 b.1 = true) (fun a b _ _ h1 h2 => ?_) hl hm hp
  have := lessB_asymm h1
  rw [h2] at this; cases this

/-- a row put where it belongs, if no other output stands there -/
def putR (r : RowT) : List RowT → Option (List RowT)
  | [] => some [r]
  | x :: xs => if lessB x.1 r.1 = true then (putR r xs).map (x :: ·) else if x.1 = r.1 then (if x.2 = r.2 then some (x :: xs) else none) else some (r :: x :: xs)
def putAll : List RowT → List RowT → Option (List RowT)
  | acc, [] => some acc
  | acc, r :: rs => match putR r acc with | none => none | some acc' => putAll acc' rs
theorem putAll_snoc (acc rs : List RowT) (r : RowT) : putAll acc (rs ++ [r]) = (putAll acc rs).bind (putR r) := by
  induction rs generalizing acc with
  | nil => simp [putAll]; cases putR r acc <;> rfl
  | cons x rs ih =>
    simp only [List.cons_append, putAll]
    cases putR x acc with
    | none => rfl
    | some a => exact ih a
theorem putR_mem {r : RowT} {l m : List RowT} (h : putR r l = some m) : ∀ x, x ∈ m ↔ x = r ∨ x ∈ l := by
  induction l generalizing m with
  | nil => simp [putR] at h; subst h; simp
  | cons y l ih =>
    simp only [putR] at h
    split at h
    · cases hp : putR r l with
      | none => simp [hp] at h
      | some m' =>
        simp [hp] at h; subst h
        intro x
        rw [List.mem_cons, ih hp x, List.mem_cons]
        constructor <;> (intro h; rcases h with h | h | h <;> simp [h])
    · split at h
      · split at h
        · simp at h; subst h
          intro x
          rw [List.mem_cons]
          constructor
          · intro h; exact .inr h
          · rintro (h | h)
            · exact .inl (h.trans (Prod.ext (by simp [*]) (by simp [*])))
            · exact h
        · cases h
      · simp at h; subst h; intro x; simp
theorem putR_asc {r : RowT} {l m : List RowT} (hl : Asc l) (h : putR r l = some m) : Asc m := by
  induction l generalizing m with
  | nil => simp [putR] at h; subst h; simp [Asc]
  | cons y l ih =>
    have hy := List.pairwise_cons.1 hl
    simp only [putR] at h
    split at h
    · cases hp : putR r l with
      | none => simp [hp] at h
      | some m' =>
        simp [hp] at h; subst h
        refine List.pairwise_cons.2 ⟨fun x hx => ?_, ih hy.2 hp⟩
        rcases (putR_mem hp x).1 hx with rfl | hx
        · assumption
        · exact hy.1 x hx
    · split at h
      · split at h
        · simp at h; subst h; exact hl
        · cases h
      · simp at h; subst h
        rename_i h1 h2
        have h3 : lessB r.1 y.1 = true := by
          cases h4 : lessB r.1 y.1
          · exact absurd (lessB_total (by simpa using h1) h4) h2
          · rfl
        refine List.pairwise_cons.2 ⟨fun x hx => ?_, hl⟩
        rcases List.mem_cons.1 hx with rfl | hx
        · exact h3
        · exact lessB_trans h3 (hy.1 x hx)
theorem putR_none {r : RowT} {l : List RowT} (h : putR r l = none) : ∃ x ∈ l, x.1 = r.1 ∧ x.2 ≠ r.2 := by
  induction l with
  | nil => simp [putR] at h
  | cons y l ih =>
    simp only [putR] at h
    split at h
    · cases hp : putR r l with
      | none => obtain ⟨x, hx, e⟩ := ih hp; exact ⟨x, by simp [hx], e⟩
      | some m' => simp [hp] at h
    · split at h
      · split at h
        · cases h
        · exact ⟨y, by simp, by assumption, by assumption⟩
      · cases h
theorem putAll_some {acc rs out : List RowT} (ha : Asc acc) (h : putAll acc rs = some out) : Asc out ∧ ∀ x, x ∈ out ↔ x ∈ acc ∨ x ∈ rs := by
  induction rs generalizing acc with
  | nil => simp [putAll] at h; subst h; exact ⟨ha, by simp⟩
  | cons r rs ih =>
    simp only [putAll] at h
    cases hp : putR r acc with
    | none => simp [hp] at h
    | some a =>
      simp only [hp] at h
      obtain ⟨h1, h2⟩ := ih (putR_asc ha hp) h
      refine ⟨h1, fun x => ?_⟩
      rw [h2 x, putR_mem hp x, List.mem_cons]
      constructor
      · rintro ((h | h) | h)
        · exact .inr (.inl h)
        · exact .inl h
        · exact .inr (.inr h)
      · rintro (h | h | h)
        · exact .inl (.inr h)
        · exact .inl (.inl h)
        · exact .inr h
theorem putAll_none {acc rs : List RowT} (h : putAll acc rs = none) : ∃ x y, (x ∈ acc ∨ x ∈ rs) ∧ (y ∈ acc ∨ y ∈ rs) ∧ x.1 = y.1 ∧ x.2 ≠ y.2 := by
  induction rs generalizing acc with
  | nil => simp [putAll] at h
  | cons r rs ih =>
    simp only [putAll] at h
    cases hp : putR r acc with
    | none =>
      obtain ⟨x, hx, e⟩ := putR_none hp
      exact ⟨x, r, .inl hx, .inr (by simp), e⟩
    | some a =>
      simp only [hp] at h
      obtain ⟨x, y, hx, hy, e⟩ := ih h
      have key : ∀ z, (z ∈ a ∨ z ∈ rs) → (z ∈ acc ∨ z ∈ r :: rs) := by
        intro z hz
        rcases hz with hz | hz
        · rcases (putR_mem hp z).1 hz with rfl | hz
          · exact .inr (by simp)
          · exact .inl hz
        · exact .inr (by simp [hz])
      exact ⟨x, y, key x hx, key y hy, e⟩

/-- the rows sorted by views and outputs, each once -/
def ltR (a b : RowT) : Bool := lessB a.1 b.1 || (decide (a.1 = b.1) && decide (a.2 < b.2))
def Made (rs m : List RowT) : Prop := m.Pairwise (fun a b => ltR a b = true) ∧ ∀ x, x ∈ m ↔ x ∈ rs
theorem made_put {rs m : List RowT} (h : Made rs m) : (∀ out, putAll [] rs = some out → out = m ∧ Asc m) ∧ (putAll [] rs = none → ¬ Asc m) := by
  obtain ⟨h1, h2⟩ := h
  constructor
  · intro out ho
    obtain ⟨a1, a2⟩ := putAll_some (by simp [Asc]) ho
    have hm : Asc m := by
      refine List.Pairwise.imp_of_mem (fun {a b} ha hb hab => ?_) h1
      cases hl : lessB a.1 b.1
      · exfalso
        simp only [ltR, hl, Bool.false_or, Bool.and_eq_true, decide_eq_true_eq] at hab
        have ma : a ∈ out := (a2 a).2 (.inr ((h2 a).1 ha))
        have mb : b ∈ out := (a2 b).2 (.inr ((h2 b).1 hb))
        have key : ∀ {l : List RowT}, Asc l → ∀ x ∈ l, ∀ y ∈ l, x.1 = y.1 → x = y := by
          intro l hl
          induction l with
          | nil => intro x hx; cases hx
          | cons z l ih =>
            have hz := List.pairwise_cons.1 hl
            intro x hx y hy e
            rcases List.mem_cons.1 hx with rfl | hx2 <;> rcases List.mem_cons.1 hy with rfl | hy2
            · rfl
            · exact absurd e (lessB_ne (hz.1 y hy2))
            · exact absurd e.symm (lessB_ne (hz.1 x hx2))
            · exact ih hz.2 x hx2 y hy2 e
        have := key a1 a ma b mb hab.1
        rw [this] at hab
        omega
      · rfl
    exact ⟨asc_unique a1 hm fun x => by rw [a2 x, h2 x]; simp, hm⟩
  · intro hn ha
    obtain ⟨x, y, hx, hy, e1, e2⟩ := putAll_none hn
    have mx : x ∈ m := (h2 x).2 (by simpa using hx)
    have my : y ∈ m := (h2 y).2 (by simpa using hy)
    have key : ∀ {l : List RowT}, Asc l → ∀ x ∈ l, ∀ y ∈ l, x.1 = y.1 → x = y := by
      intro l hl
      induction l with
      | nil => intro x hx; cases hx
      | cons z l ih =>
        have hz := List.pairwise_cons.1 hl
        intro x hx y hy e
        rcases List.mem_cons.1 hx with rfl | hx2 <;> rcases List.mem_cons.1 hy with rfl | hy2
        · rfl
        · exact absurd e (lessB_ne (hz.1 y hy2))
        · exact absurd e.symm (lessB_ne (hz.1 x hx2))
        · exact ih hz.2 x hx2 y hy2 e
    exact e2 (by rw [key ha x mx y my e1])

/-- the tree of a view text, if it is one -/
def viewOf (s : ByteArray) : Option VT := if s.size ≤ 4000 then (match pg (s.size + 1) (from_ s 0) with | some (t, []) => some t | _ => none) else none
/-- a row of a table of depth D -/
def rowB (D : Int) (r : RowT) : Bool := match viewOf r.1 with | some t => (decide ((t.dep : Int) = D) || t.deg == 0) && inB r.2 0 99 | none => false
/-- a table -/
def tabB (D : Int) (rs : List RowT) : Bool := inB D 0 4 && decide (rs.length ≤ 60) && decide (∀ i, i < rs.length → rowB D (ga rs i) = true ∧ (0 < i → lessB (ga rs (i - 1)).1 (ga rs i).1 = true))
theorem tabB_iff {D : Int} {rs : List RowT} : tabB D rs = true ↔ inB D 0 4 = true ∧ rs.length ≤ 60 ∧ (∀ i, i < rs.length → rowB D (ga rs i) = true) ∧ Asc rs := by
  simp only [tabB, Bool.and_eq_true, decide_eq_true_eq, asc_iff, and_assoc]
  refine and_congr_right fun _ => and_congr_right fun _ => ⟨fun h => ⟨fun i hi => (h i hi).1, fun i hi => ?_⟩, fun h i hi => ⟨h.1 i hi, fun h0 => ?_⟩⟩
  · have := (h (i + 1) hi).2 (by omega)
    simpa using this
  · have := h.2 (i - 1) (by omega)
    rwa [show i - 1 + 1 = i by omega] at this
end Go.Proofs.Ytclkboemgneojaa
