/- Tables of views: rows sorted and each kept once; rows of less deep views. No program in sight. -/
import Derived.Test.YtjoimponfeofkaaGreatCJn3
namespace Go.Proofs.YtjoimponfeofkaaGreat

/-- of equal neighbours the first -/
def ddR : List RowT → List RowT
  | [] => []
  | x :: l => match l with
    | [] => [x]
    | y :: m => if x = y then ddR l else x :: ddR l
theorem ddR_mem (l : List RowT) : ∀ x, x ∈ ddR l ↔ x ∈ l := by
  induction l with
  | nil => simp [ddR]
  | cons a l ih =>
    intro x
    unfold ddR
    split
    · rfl
    · split
      · rename_i h
        rw [ih x, h]; simp
      · rw [List.mem_cons, ih x]; exact List.mem_cons.symm
theorem ddR_len (l : List RowT) : (ddR l).length ≤ l.length := by
  induction l with
  | nil => simp [ddR]
  | cons a l ih =>
    unfold ddR
    split
    · simp
    · split
      · simp only [List.length_cons] at ih ⊢; omega
      · simp only [List.length_cons] at ih ⊢; omega
theorem ltR_of {a b : RowT} (h : ltR b a = false) (hne : a ≠ b) : ltR a b = true := by
  simp only [ltR, Bool.or_eq_false_iff, Bool.and_eq_false_iff, decide_eq_false_iff_not] at h
  simp only [ltR, Bool.or_eq_true, Bool.and_eq_true, decide_eq_true_eq]
  obtain ⟨h1, h2⟩ := h
  cases h3 : lessB a.1 b.1
  · right
    have h4 := lessB_total h3 h1
    refine ⟨h4, ?_⟩
    rcases h2 with h2 | h2
    · exact absurd h4.symm h2
    · have : a.2 ≠ b.2 := fun e => hne (Prod.ext h4 e)
      omega
  · exact .inl rfl
theorem ltR_trans {a b c : RowT} (h1 : ltR a b = true) (h2 : ltR b c = true) : ltR a c = true := by
  simp only [ltR, Bool.or_eq_true, Bool.and_eq_true, decide_eq_true_eq] at *
  rcases h1 with h1 | ⟨h1, h1'⟩ <;> rcases h2 with h2 | ⟨h2, h2'⟩
  · exact .inl (lessB_trans h1 h2)
  · exact .inl (h2 ▸ h1)
  · exact .inl (h1 ▸ h2)
  · exact .inr ⟨h1.trans h2, by omega⟩
theorem ltR_irrefl (a : RowT) : ltR a a = false := by simp [ltR, lessB_irrefl]
theorem ltR_asymm {a b : RowT} (h : ltR a b = true) : ltR b a = false := by
  cases h2 : ltR b a
  · rfl
  · have := ltR_trans h h2
    rw [ltR_irrefl] at this; cases this
/-- no greater one before a smaller one -/
theorem ddR_lt {l : List RowT} (h : l.Pairwise fun a b => ltR b a = false) : (ddR l).Pairwise fun a b => ltR a b = true := by
  induction l with
  | nil => simp [ddR]
  | cons a l ih =>
    obtain ⟨h1, h2⟩ := List.pairwise_cons.1 h
    unfold ddR
    split
    · simp
    · rename_i y m
      split
      · exact ih h2
      · rename_i hne
        refine List.pairwise_cons.2 ⟨fun x hx => ?_, ih h2⟩
        have hx := (ddR_mem _ x).1 hx
        have hay := ltR_of (h1 y (by simp)) hne
        rcases List.mem_cons.1 hx with rfl | hx
        · exact hay
        · have h3 := (List.pairwise_cons.1 h2).1 x hx
          by_cases hxy : y = x
          · exact hxy ▸ hay
          · exact ltR_trans hay (ltR_of h3 hxy)
/-- sorted, each once -/
def madeOf (rs : List RowT) : List RowT := ddR (rs.mergeSort fun x y => !ltR y x)
theorem madeOf_made (rs : List RowT) : Made rs (madeOf rs) := by
  refine ⟨ddR_lt ?_, fun x => ?_⟩
  · have := List.pairwise_mergeSort (le := fun (x y : RowT) => !ltR y x) (fun a b c h1 h2 => ?_) (fun a b => ?_) rs
    · exact this.imp fun h => by simpa using h
    · simp only [Bool.not_eq_true'] at *
      cases h3 : ltR c a
      · rfl
      · by_cases hab : a = b
        · rw [hab] at h3; rw [h3] at h2; cases h2
        · have := ltR_trans h3 (ltR_of h1 hab)
          rw [this] at h2; cases h2
    · cases h1 : ltR b a
      · simp
      · simp [ltR_asymm h1]
  · rw [madeOf, ddR_mem, List.mem_mergeSort]
theorem madeOf_len (rs : List RowT) : (madeOf rs).length ≤ rs.length := by
  have := ddR_len (rs.mergeSort fun x y => !ltR y x)
  rw [List.length_mergeSort] at this
  exact this

/-- the row of a less deep view -/
def cutRow (k : Nat) (r : RowT) : RowT := match viewOf r.1 with | some t => (strB (t.txt k), r.2) | none => r
theorem cutRow_good {D : Int} {k : Nat} {r : RowT} (h : rowB D r = true) (hk : (k : Int) ≤ D) : rowB k (cutRow k r) = true := by
  unfold rowB at h
  unfold cutRow
  split at h
  · rename_i t ht
    rw [ht]
    obtain ⟨h1, h2⟩ := viewOf_txt ht k
    simp only [rowB, h2]
    simp only [Bool.and_eq_true, Bool.or_eq_true, decide_eq_true_eq, beq_iff_eq] at h ⊢
    refine ⟨?_, h.2⟩
    rw [cut_dep, cut_deg]
    rcases h.1 with h | h
    · left; omega
    · exact .inr h
  · cases h
/-- what CutTable gives -/
def cutT (D : Int) (rows : List RowT) (k : Int) : Option (List RowT) := if tabB D rows && inB k 0 D then putAll [] (rows.map (cutRow k.toNat)) else none
theorem cutT_made {D k : Int} {rows : List RowT} (h1 : tabB D rows = true) (h2 : inB k 0 D = true) :
    cutT D rows k = if tabB k (madeOf (rows.map (cutRow k.toNat))) = true then some (madeOf (rows.map (cutRow k.toNat))) else none := by
  obtain ⟨t1, t2, t3, t4⟩ := tabB_iff.1 h1
  have hk := inB_iff.1 h2
  have hD := inB_iff.1 t1
  have hkn : (k.toNat : Int) = k := by omega
  have hM := madeOf_made (rows.map (cutRow k.toNat))
  obtain ⟨p1, p2⟩ := made_put hM
  have key : tabB k (madeOf (rows.map (cutRow k.toNat))) = true ↔ Asc (madeOf (rows.map (cutRow k.toNat))) := by
    rw [tabB_iff]
    constructor
    · exact fun h => h.2.2.2
    · refine fun h => ⟨inB_iff.2 (by omega), ?_, fun i hi => ?_, h⟩
      · have := madeOf_len (rows.map (cutRow k.toNat))
        rw [List.length_map] at this; omega
      · have hm : ga (madeOf (rows.map (cutRow k.toNat))) i ∈ rows.map (cutRow k.toNat) := (hM.2 _).1 (ga_mem hi)
        obtain ⟨r, hr, e⟩ := List.mem_map.1 hm
        rw [← e]
        obtain ⟨j, hj, rfl⟩ := List.getElem_of_mem hr
        have h3 := t3 j hj
        rw [ga_lt hj] at h3
        have := cutRow_good (k := k.toNat) h3 (by omega)
        rw [hkn] at this; exact this
  unfold cutT
  rw [h1, h2, Bool.and_self, if_pos rfl]
  cases hp : putAll [] (rows.map (cutRow k.toNat)) with
  | none => rw [if_neg (fun h => p2 hp (key.1 h))]
  | some out =>
    obtain ⟨e, ha⟩ := p1 out hp
    rw [if_pos (key.2 ha), e]
end Go.Proofs.YtjoimponfeofkaaGreat
