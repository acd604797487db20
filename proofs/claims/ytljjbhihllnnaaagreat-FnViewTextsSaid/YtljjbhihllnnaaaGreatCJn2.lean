/- Parts of the proof, joined: Vwc, Vt2, Vt3. -/
import Derived.Test.YtljjbhihllnnaaaGreatCJn1
namespace Go.Proofs.YtljjbhihllnnaaaGreat

/-- no node ahead of v has its key -/
def newB (k : Nat → List Int) (v : Nat) : Bool := (List.range v).all fun u => k u != k v
theorem newB_iff {k : Nat → List Int} {v : Nat} : newB k v = true ↔ ∀ u, u < v → k u ≠ k v := by simp [newB]
theorem newB_no {k : Nat → List Int} {v : Nat} (h : newB k v = false) : ∃ u, u < v ∧ k u = k v := by
  apply Classical.byContradiction
  intro hn
  have : newB k v = true := newB_iff.2 fun u hu e => hn ⟨u, hu, e⟩
  rw [this] at h; cases h
/-- how many new ones are ahead of v -/
def cnB (k : Nat → List Int) (v : Nat) : Nat := ((List.range v).filter (newB k)).length
theorem cnB_zero (k : Nat → List Int) : cnB k 0 = 0 := rfl
theorem cnB_succ (k : Nat → List Int) (v : Nat) : cnB k (v + 1) = cnB k v + (if newB k v = true then 1 else 0) := by
  unfold cnB
  rw [List.range_succ, List.filter_append, List.length_append]
  by_cases h : newB k v = true <;> simp [h]
theorem cnB_mono {k : Nat → List Int} {u v : Nat} (h : u ≤ v) : cnB k u ≤ cnB k v := by
  induction h with
  | refl => exact Nat.le_refl _
  | step _ ih => rw [cnB_succ]; omega
theorem cnB_le (k : Nat → List Int) (v : Nat) : cnB k v ≤ v := by
  unfold cnB
  have := List.length_filter_le (newB k) (List.range v)
  rwa [List.length_range] at this
theorem cnB_pos (k : Nat → List Int) {n : Nat} (h : 0 < n) : 0 < cnB k n := by
  have h1 : newB k 0 = true := newB_iff.2 fun u hu => absurd hu (Nat.not_lt_zero _)
  have h2 : cnB k 1 = 1 := by rw [cnB_succ k 0, if_pos h1, cnB_zero]
  have := cnB_mono (k := k) (u := 1) (v := n) (by omega)
  omega
theorem rep_ex (k : Nat → List Int) (v : Nat) : ∃ u, u ≤ v ∧ k u = k v ∧ newB k u = true := by
  induction v using Nat.strongRecOn with
  | ind v ih =>
    by_cases h : newB k v = true
    · exact ⟨v, Nat.le_refl _, rfl, h⟩
    · obtain ⟨u, hu, e⟩ := newB_no (by simpa using h)
      obtain ⟨u', h1, h2, h3⟩ := ih u hu
      exact ⟨u', by omega, h2.trans e, h3⟩
/-- the first one with the key of v -/
noncomputable def rep (k : Nat → List Int) (v : Nat) : Nat := Classical.choose (rep_ex k v)
theorem rep_le (k : Nat → List Int) (v : Nat) : rep k v ≤ v := (Classical.choose_spec (rep_ex k v)).1
theorem rep_key (k : Nat → List Int) (v : Nat) : k (rep k v) = k v := (Classical.choose_spec (rep_ex k v)).2.1
theorem rep_new (k : Nat → List Int) (v : Nat) : newB k (rep k v) = true := (Classical.choose_spec (rep_ex k v)).2.2
theorem new_unique {k : Nat → List Int} {u v : Nat} (h : newB k u = true) (h' : newB k v = true) (e : k u = k v) : u = v := by
  rcases Nat.lt_trichotomy u v with h1 | h1 | h1
  · exact absurd e (newB_iff.1 h' u h1)
  · exact h1
  · exact absurd e.symm (newB_iff.1 h v h1)
/-- the number of v -/
noncomputable def nm (k : Nat → List Int) (v : Nat) : Nat := cnB k (rep k v)
theorem nm_eq {k : Nat → List Int} {u v : Nat} (e : k u = k v) : nm k u = nm k v := by
  unfold nm
  rw [new_unique (rep_new k u) (rep_new k v) (by rw [rep_key k u, rep_key k v, e])]
theorem nm_new {k : Nat → List Int} {v : Nat} (h : newB k v = true) : nm k v = cnB k v := by
  unfold nm
  rw [new_unique (rep_new k v) h (rep_key k v)]
theorem cn_lt {k : Nat → List Int} {u v : Nat} (h : newB k u = true) (hv : u < v) : cnB k u < cnB k v := by
  have h1 := cnB_succ k u
  rw [if_pos h] at h1
  have := cnB_mono (k := k) (u := u + 1) (v := v) (by omega)
  omega
theorem nm_inj {k : Nat → List Int} {u v : Nat} (e : nm k u = nm k v) : k u = k v := by
  unfold nm at e
  rcases Nat.lt_trichotomy (rep k u) (rep k v) with h | h | h
  · have := cn_lt (rep_new k u) h; omega
  · rw [← rep_key k u, h, rep_key k v]
  · have := cn_lt (rep_new k v) h; omega
theorem nm_lt {k : Nat → List Int} {v n : Nat} (h : v < n) : nm k v < cnB k n := cn_lt (rep_new k v) (by have := rep_le k v; omega)
/-- one number more -/
theorem cn_max {k : Nat → List Int} (j : Nat) : max (cnB k j) (nm k j + 1) = cnB k (j + 1) := by
  rw [cnB_succ]
  by_cases h : newB k j = true
  · rw [if_pos h, nm_new h]; omega
  · rw [if_neg h]
    obtain ⟨u, hu, e⟩ := newB_no (by simpa using h)
    have := nm_lt (k := k) hu
    rw [nm_eq e] at this
    omega
/-- the numbers of n nodes -/
noncomputable def clsK (k : Nat → List Int) (n : Nat) : List Int := (List.range n).map fun v => (nm k v : Int)
theorem clsK_len (k : Nat → List Int) (n : Nat) : (clsK k n).length = n := by simp [clsK]
theorem clsK_gi {k : Nat → List Int} {n v : Nat} (h : v < n) : gi (clsK k n) v = (nm k v : Int) := by simp [clsK, gi, h]
theorem clsK_eq {k : Nat → List Int} {n u v : Nat} (hu : u < n) (hv : v < n) : gi (clsK k n) u = gi (clsK k n) v ↔ k u = k v := by
  rw [clsK_gi hu, clsK_gi hv]
  exact ⟨fun h => nm_inj (by omega), fun h => by rw [nm_eq h]⟩

/-- keys k' part more than keys k -/
def Finer (n : Nat) (k' k : Nat → List Int) : Prop := ∀ u v, u < n → v < n → k' u = k' v → k u = k v
theorem Finer.new {n : Nat} {k' k : Nat → List Int} (h : Finer n k' k) {v : Nat} (hv : v < n) (hn : newB k v = true) : newB k' v = true :=
  newB_iff.2 fun u hu e => newB_iff.1 hn u hu (h u v (by omega) hv e)
theorem Finer.cn {n : Nat} {k' k : Nat → List Int} (h : Finer n k' k) : ∀ m, m ≤ n → cnB k m ≤ cnB k' m
  | 0, _ => Nat.le_refl _
  | m + 1, hm => by
    have ih := h.cn m (by omega)
    rw [cnB_succ, cnB_succ]
    by_cases hn : newB k m = true
    · rw [if_pos hn, if_pos (h.new (by omega) hn)]; omega
    · rw [if_neg hn]; omega
theorem Finer.strict {n : Nat} {k' k : Nat → List Int} (h : Finer n k' k) {m : Nat} (hm : cnB k m < cnB k' m) : ∀ t, m + t ≤ n → cnB k (m + t) < cnB k' (m + t)
  | 0, _ => hm
  | t + 1, ht => by
    have ih := h.strict hm t (by omega)
    rw [← Nat.add_assoc, cnB_succ, cnB_succ]
    by_cases hn : newB k (m + t) = true
    · rw [if_pos hn, if_pos (h.new (by omega) hn)]; omega
    · rw [if_neg hn]; omega
theorem Finer.eq {n : Nat} {k' k : Nat → List Int} (h : Finer n k' k) (e : cnB k' n = cnB k n) : Finer n k k' := by
  have key : ∀ v, v < n → newB k' v = true → newB k v = true := fun v hv h1 => by
    apply Classical.byContradiction
    intro h2
    have a1 := cnB_succ k v
    have a2 := cnB_succ k' v
    rw [if_neg h2] at a1
    rw [if_pos h1] at a2
    have a3 := h.cn v (by omega)
    have := h.strict (m := v + 1) (by omega) (n - (v + 1)) (by omega)
    rw [show v + 1 + (n - (v + 1)) = n by omega] at this
    omega
  intro u v hu hv e'
  have r1 := rep_le k' u
  have r2 := rep_le k' v
  have n1 := key _ (by omega) (rep_new k' u)
  have n2 := key _ (by omega) (rep_new k' v)
  have e1 := h _ _ (by omega) hu (rep_key k' u)
  have e2 := h _ _ (by omega) hv (rep_key k' v)
  have := new_unique n1 n2 (by rw [e1, e2, e'])
  rw [← rep_key k' u, this, rep_key k' v]

/-- what the class of a view follows from -/
def vkey (N : Net) (c : Option (List Int)) (v : Nat) : List Int :=
  ((gl N.ends v).length : Int) :: gi N.inputs v :: (match c with | none => [] | some c => (gl N.ends v).flatMap fun e => [e.2, gi c e.1.toNat])
theorem flat2_eq {f : Int × Int → Int} : ∀ {es fs : List (Int × Int)}, es.length = fs.length → ((es.flatMap fun e => [e.2, f e]) = (fs.flatMap fun e => [e.2, f e]) ↔ ∀ i, i < es.length → (gp es i).2 = (gp fs i).2 ∧ f (gp es i) = f (gp fs i))
  | [], [], _ => by simp
  | [], _ :: _, h => by simp at h
  | _ :: _, [], h => by simp at h
  | e :: es, g :: fs, h => by
    have ih := flat2_eq (f := f) (es := es) (fs := fs) (by simpa using h)
    simp only [List.flatMap_cons, List.cons_append, List.nil_append, List.cons.injEq, ih]
    constructor
    · rintro ⟨h1, h2, h3⟩ i hi
      rcases i with _ | i
      · exact ⟨by simpa [gp] using h1, by simpa [gp] using h2⟩
      · have := h3 i (by simpa using hi)
        simpa [gp] using this
    · intro hx
      refine ⟨?_, ?_, fun i hi => ?_⟩
      · have := (hx 0 (by simp)).1; simpa [gp] using this
      · have := (hx 0 (by simp)).2; simpa [gp] using this
      · have := hx (i + 1) (by simpa using hi); simpa [gp] using this
theorem vkey_none {N : Net} {u v : Nat} : vkey N none u = vkey N none v ↔ (gl N.ends u).length = (gl N.ends v).length ∧ gi N.inputs u = gi N.inputs v := by
  simp only [vkey, List.cons.injEq, and_true]
  constructor <;> rintro ⟨h1, h2⟩ <;> exact ⟨by omega, h2⟩
theorem vkey_some {N : Net} {c : List Int} {u v : Nat} : vkey N (some c) u = vkey N (some c) v ↔ (gl N.ends u).length = (gl N.ends v).length ∧ gi N.inputs u = gi N.inputs v ∧
    ∀ i, i < (gl N.ends u).length → (gp (gl N.ends u) i).2 = (gp (gl N.ends v) i).2 ∧ gi c (gp (gl N.ends u) i).1.toNat = gi c (gp (gl N.ends v) i).1.toNat := by
  simp only [vkey, List.cons.injEq]
  constructor
  · rintro ⟨h1, h2, h3⟩
    have hl : (gl N.ends u).length = (gl N.ends v).length := by omega
    exact ⟨hl, h2, (flat2_eq (f := fun e => gi c e.1.toNat) hl).1 h3⟩
  · rintro ⟨h1, h2, h3⟩
    exact ⟨by omega, h2, (flat2_eq (f := fun e => gi c e.1.toNat) h1).2 h3⟩

/-- the classes of the views of a depth -/
noncomputable def vcls (N : Net) : Nat → List Int
  | 0 => clsK (vkey N none) N.ends.length
  | t + 1 => clsK (vkey N (some (vcls N t))) N.ends.length
noncomputable def vk (N : Net) : Nat → Nat → List Int
  | 0 => vkey N none
  | t + 1 => vkey N (some (vcls N t))
theorem vcls_eq (N : Net) (t : Nat) : vcls N t = clsK (vk N t) N.ends.length := by cases t <;> rfl
theorem vcls_len (N : Net) (t : Nat) : (vcls N t).length = N.ends.length := by rw [vcls_eq, clsK_len]
/-- how many classes -/
noncomputable def vmany (N : Net) (t : Nat) : Nat := cnB (vk N t) N.ends.length
theorem vcls_iff {N : Net} {t u v : Nat} (hu : u < N.ends.length) (hv : v < N.ends.length) : gi (vcls N t) u = gi (vcls N t) v ↔ vk N t u = vk N t v := by rw [vcls_eq]; exact clsK_eq hu hv
theorem vcls_range {N : Net} {t v : Nat} (hv : v < N.ends.length) : 0 ≤ gi (vcls N t) v ∧ gi (vcls N t) v < vmany N t := by
  rw [vcls_eq, clsK_gi hv]
  have := nm_lt (k := vk N t) hv
  unfold vmany
  omega
theorem vmany_le (N : Net) (t : Nat) : vmany N t ≤ N.ends.length := cnB_le _ _
theorem vmany_pos {N : Net} (h : 0 < N.ends.length) (t : Nat) : 0 < vmany N t := cnB_pos _ h

theorem node_lt {N : Net} (h : goodB N = true) {u i : Nat} (hu : u < N.ends.length) (hi : i < (gl N.ends u).length) : (gp (gl N.ends u) i).1.toNat < N.ends.length := by
  have := good_node h hu hi
  omega
/-- deeper classes part more -/
theorem vk_finer {N : Net} (h : goodB N = true) : ∀ t, Finer N.ends.length (vk N (t + 1)) (vk N t)
  | 0 => fun u v _ _ e => by
    obtain ⟨h1, h2, -⟩ := vkey_some.1 e
    exact vkey_none.2 ⟨h1, h2⟩
  | t + 1 => fun u v hu hv e => by
    obtain ⟨h1, h2, h3⟩ := vkey_some.1 e
    refine vkey_some.2 ⟨h1, h2, fun i hi => ⟨(h3 i hi).1, ?_⟩⟩
    have n1 := node_lt h hu hi
    have n2 := node_lt h hv (i := i) (by omega)
    exact (vcls_iff n1 n2).2 (vk_finer h t _ _ n1 n2 ((vcls_iff n1 n2).1 (h3 i hi).2))
theorem vmany_mono {N : Net} (h : goodB N = true) (t : Nat) : vmany N t ≤ vmany N (t + 1) := (vk_finer h t).cn _ (Nat.le_refl _)

/-- d is the stable depth -/
def IsSd (N : Net) (d : Nat) : Prop := vmany N (d + 1) = vmany N d ∧ ∀ s, s < d → vmany N (s + 1) ≠ vmany N s
theorem IsSd.unique {N : Net} {d d' : Nat} (h : IsSd N d) (h' : IsSd N d') : d = d' := by
  rcases Nat.lt_trichotomy d d' with h1 | h1 | h1
  · exact absurd h.1 (h'.2 d h1)
  · exact h1
  · exact absurd h'.1 (h.2 d' h1)
/-- as long as classes are parted there are more than rounds -/
theorem vmany_ge {N : Net} (h : goodB N = true) : ∀ t, (∀ s, s < t → vmany N (s + 1) ≠ vmany N s) → t + 1 ≤ vmany N t
  | 0, _ => vmany_pos (by have := good_len h; omega) 0
  | t + 1, hs => by
    have ih := vmany_ge h t fun s hs' => hs s (by omega)
    have h1 := hs t (by omega)
    have h2 := vmany_mono h t
    omega
theorem vmany_lt {N : Net} (h : goodB N = true) {t : Nat} (hs : ∀ s, s < t → vmany N (s + 1) ≠ vmany N s) : t < N.ends.length := by
  have h1 := vmany_ge h t hs
  have h2 := vmany_le N t
  omega
theorem sd_ex {N : Net} (h : goodB N = true) : ∃ d, IsSd N d := by
  apply Classical.byContradiction
  intro hn
  have key : ∀ t, ∀ s, s < t → vmany N (s + 1) ≠ vmany N s := by
    intro t
    induction t with
    | zero => intro s hs; omega
    | succ t ih =>
      intro s hs
      rcases Nat.lt_or_ge s t with h1 | h1
      · exact ih s h1
      · obtain rfl : s = t := by omega
        exact fun e => hn ⟨s, e, ih⟩
  have := vmany_lt h (key N.ends.length)
  omega
theorem IsSd.lt {N : Net} {d : Nat} (hd : IsSd N d) (h : goodB N = true) : d < N.ends.length := vmany_lt h hd.2
/-- behind the stable depth nothing is parted -/
theorem IsSd.all {N : Net} {d : Nat} (hd : IsSd N d) (h : goodB N = true) : ∀ t, Finer N.ends.length (vk N d) (vk N (d + t))
  | 0 => fun _ _ _ _ e => e
  | t + 1 => fun u v hu hv e => by
    have h0 := (vk_finer h d).eq hd.1 u v hu hv e
    obtain ⟨h1, h2, h3⟩ := vkey_some.1 h0
    refine vkey_some.2 ⟨h1, h2, fun i hi => ⟨(h3 i hi).1, ?_⟩⟩
    have n1 := node_lt h hu hi
    have n2 := node_lt h hv (i := i) (by omega)
    exact (vcls_iff n1 n2).2 (hd.all h t _ _ n1 n2 ((vcls_iff n1 n2).1 (h3 i hi).2))
end Go.Proofs.YtljjbhihllnnaaaGreat

namespace Go.Proofs.YtljjbhihllnnaaaGreat

mutual
/-- a tree that a parser gives -/
def VT.wf : VT → Bool | .mk d i ps ts => decide (d ≤ 6) && decide (i ≤ 9) && decide (ps.length = ts.length) && (ts.isEmpty || decide (ts.length = d)) && wfs ps ts
def wfs : List Nat → List VT → Bool
  | _, [] => true
  | [], _ :: _ => false
  | p :: ps, t :: ts => decide (p ≤ 5) && decide (p < t.deg) && t.wf && wfs ps ts
end
theorem wf_mk {d i : Nat} {ps : List Nat} {ts : List VT} : (VT.mk d i ps ts).wf = true ↔ d ≤ 6 ∧ i ≤ 9 ∧ ps.length = ts.length ∧ (ts = [] ∨ ts.length = d) ∧ wfs ps ts = true := by
  simp [VT.wf, and_assoc]
theorem wfs_cons {p : Nat} {ps : List Nat} {t : VT} {ts : List VT} : wfs (p :: ps) (t :: ts) = true ↔ p ≤ 5 ∧ p < t.deg ∧ t.wf = true ∧ wfs ps ts = true := by
  simp [wfs, and_assoc]

theorem pks_wf {p : List UInt8 → Option (VT × List UInt8)} (hp : ∀ l t r, p l = some (t, r) → t.wf = true) {n : Nat} {s : UInt8} {l r : List UInt8} {ps : List Nat} {ts : List VT} (h : pks p n s l = some (ps, ts, r)) :
    wfs ps ts = true ∧ ps.length = n ∧ ts.length = n := by
  induction n generalizing s l r ps ts with
  | zero => simp [pks] at h; obtain ⟨rfl, rfl, rfl⟩ := h; simp [wfs]
  | succ n ih =>
    unfold pks at h
    split at h; · cases h
    rename_i l1 h1
    split at h; · cases h
    rename_i j l2 h2
    split at h; · cases h
    rename_i l3 h3
    split at h; · cases h
    rename_i t l4 h4
    split at h
    · split at h; · cases h
      rename_i ps' ts' l5 h5
      simp at h
      obtain ⟨rfl, rfl, rfl⟩ := h
      obtain ⟨i1, i2, i3⟩ := ih h5
      have := dgt_len h2
      exact ⟨wfs_cons.2 ⟨by omega, by assumption, hp _ _ _ h4, i1⟩, by simp [i2], by simp [i3]⟩
    · cases h
theorem pv_wf {f : Nat} {l r : List UInt8} {t : VT} (h : pv f l = some (t, r)) : t.wf = true := by
  induction f generalizing l r t with
  | zero => cases h
  | succ f ih =>
    unfold pv at h
    split at h; · cases h
    rename_i d l1 h1
    split at h; · cases h
    rename_i l2 h2
    split at h; · cases h
    rename_i i l3 h3
    have := dgt_len h1
    have := dgt_len h3
    split at h
    · simp at h; obtain ⟨rfl, rfl⟩ := h
      exact wf_mk.2 ⟨by omega, by omega, rfl, .inl rfl, by simp [wfs]⟩
    · split at h; · cases h
      rename_i ps ts l4 h4
      split at h; · cases h
      simp at h; obtain ⟨rfl, rfl⟩ := h
      obtain ⟨i1, i2, i3⟩ := pks_wf (fun _ _ _ => ih) h4
      exact wf_mk.2 ⟨by omega, by omega, by omega, .inr i3, i1⟩

mutual
theorem fits_iff : ∀ (t : VT) (k : Nat), t.wf = true → (t.fits k = true ↔ (t.deg = 0 ∨ (t.uni = true ∧ t.dep = k)))
  | .mk d i ps ts, k, h => by
    obtain ⟨h1, h2, h3, h4, h5⟩ := wf_mk.1 h
    have ih := fitss_iff ts ps (k - 1) h5
    simp only [VT.fits, VT.deg, uni_mk, dep_mk, Bool.or_eq_true, beq_iff_eq, Bool.and_eq_true]
    by_cases hd : d = 0
    · simp [hd]
    · simp only [hd, false_or]
      rw [ih, unis_iff]
      cases ts with
      | nil => simp [deps]; exact eq_comm
      | cons x ts =>
        simp only [List.isEmpty_cons]
        constructor
        · rintro ⟨e, hx⟩
          have hk : k ≠ 0 := by simpa using e
          have e2 : deps (x :: ts) = k := by
            have := (unis_iff (ts := x :: ts)).1
            have key : ∀ us : List VT, us ≠ [] → (∀ t ∈ us, t.uni = true ∧ t.dep = k - 1) → deps us = k := by
              intro us
              induction us with
              | nil => intro h; exact absurd rfl h
              | cons y us ih =>
                intro _ h
                have := (h y (by simp)).2
                simp only [deps]
                cases us with
                | nil => simp [deps]; omega
                | cons z us => have := ih (by simp) (fun t ht => h t (by simp [List.mem_cons.1 ht])); omega
            exact key _ (by simp) hx
          exact ⟨⟨fun t ht => (hx t ht).1, fun t ht => by have := (hx t ht).2; omega⟩, e2⟩
        · rintro ⟨⟨a1, a2⟩, e⟩
          have := a2 x (by simp)
          refine ⟨by have : k ≠ 0 := by omega
                     simp [this], fun t ht => ⟨a1 t ht, by have := a2 t ht; omega⟩⟩
theorem fitss_iff : ∀ (ts : List VT) (ps : List Nat) (k : Nat), wfs ps ts = true → (fitss ts k = true ↔ ∀ t ∈ ts, t.uni = true ∧ t.dep = k)
  | [], _, _, _ => by simp [fitss]
  | t :: ts, [], _, h => by simp [wfs] at h
  | t :: ts, p :: ps, k, h => by
    obtain ⟨h1, h2, h3, h4⟩ := wfs_cons.1 h
    have i1 := fits_iff t k h3
    have i2 := fitss_iff ts ps k h4
    have hd : t.deg ≠ 0 := by omega
    simp only [fitss, Bool.and_eq_true, i1, i2, hd, false_or, List.mem_cons, forall_eq_or_imp]
end

/-- the reference's test is the program's -/
theorem good_fits {t : VT} (h : t.wf = true) : (decide (t.dep ≤ 80) && t.fits t.dep) = t.good := by
  rw [Bool.eq_iff_iff]
  simp only [Bool.and_eq_true, decide_eq_true_eq, VT.good]
  rw [fits_iff t _ h]
  constructor
  · rintro ⟨h1, h2 | h2⟩
    · obtain ⟨d, i, ps, ts⟩ := t
      obtain ⟨a1, a2, a3, a4, a5⟩ := wf_mk.1 h
      simp only [VT.deg] at h2
      have : ts = [] := by
        rcases a4 with a4 | a4
        · exact a4
        · exact List.eq_nil_of_length_eq_zero (by omega)
      subst this
      exact ⟨by simp [VT.uni, unis], h1⟩
    · exact ⟨h2.1, h1⟩
  · rintro ⟨h1, h2⟩
    exact ⟨h2, .inr ⟨h1, rfl⟩⟩

/-- a digit -/
def dch (n : Nat) : UInt8 := UInt8.ofNat (48 + n)
theorem dch_nat {n : Nat} (h : n ≤ 9) : (dch n).toNat = 48 + n := by simp [dch]; omega
mutual
/-- the text of the beginning of depth k -/
def VT.txt : Nat → VT → List UInt8 | k, .mk d i ps ts => dch d :: 46 :: dch i :: (if k = 0 ∨ ts.isEmpty = true then [] else txts (k - 1) 40 ps ts ++ [41])
def txts : Nat → UInt8 → List Nat → List VT → List UInt8
  | _, _, _, [] => []
  | _, _, [], _ :: _ => []
  | k, s, p :: ps, t :: ts => s :: dch p :: 58 :: (t.txt k ++ txts k 44 ps ts)
end
mutual
/-- the beginning of depth k -/
def VT.cut : Nat → VT → VT | k, .mk d i ps ts => if k = 0 ∨ ts.isEmpty = true then .mk d i [] [] else .mk d i ps (cuts (k - 1) ts)
def cuts : Nat → List VT → List VT | _, [] => [] | k, t :: ts => t.cut k :: cuts k ts
end
theorem cuts_len (k : Nat) (ts : List VT) : (cuts k ts).length = ts.length := by
  induction ts with
  | nil => simp [cuts]
  | cons t ts ih => simp [cuts, ih]
theorem cuts_mem {k : Nat} {ts : List VT} {u : VT} (h : u ∈ cuts k ts) : ∃ t ∈ ts, u = t.cut k := by
  induction ts with
  | nil => simp [cuts] at h
  | cons t ts ih =>
    simp only [cuts, List.mem_cons] at h
    rcases h with rfl | h
    · exact ⟨t, by simp, rfl⟩
    · obtain ⟨x, hx, e⟩ := ih h
      exact ⟨x, by simp [hx], e⟩
theorem cut_deg (k : Nat) (t : VT) : (t.cut k).deg = t.deg := by
  obtain ⟨d, i, ps, ts⟩ := t
  simp only [VT.cut]
  split <;> rfl

mutual
theorem cut_dep : ∀ (t : VT) (k : Nat), (t.cut k).dep = min k t.dep
  | .mk d i ps ts, k => by
    simp only [VT.cut]
    split
    · rename_i h
      rcases h with h | h
      · simp [dep_mk, deps, h]
      · have : ts = [] := by simpa using h
        simp [dep_mk, deps, this]
    · rename_i h
      have hk : k ≠ 0 := fun e => h (.inl e)
      rw [dep_mk, dep_mk, cuts_deps ts (k - 1)]
      have : ts ≠ [] := fun e => h (.inr (by simp [e]))
      have := deps_pos this
      simp only [if_neg ‹ts ≠ []›]
      omega
theorem cuts_deps : ∀ (ts : List VT) (k : Nat), deps (cuts k ts) = if ts = [] then 0 else min (k + 1) (deps ts)
  | [], k => by simp [cuts, deps]
  | t :: ts, k => by
    simp only [cuts, deps, cut_dep t k, cuts_deps ts k]
    cases ts with
    | nil => simp [deps]
    | cons x ts => simp only [reduceCtorEq, if_false]; omega
end
mutual
theorem cut_uni : ∀ (t : VT) (k : Nat), t.uni = true → (t.cut k).uni = true
  | .mk d i ps ts, k, h => by
    simp only [VT.cut]
    split
    · simp [uni_mk, unis]
    · rw [uni_mk] at h ⊢
      exact cuts_unis ts (k - 1) h
theorem cuts_unis : ∀ (ts : List VT) (k : Nat), unis ts = true → unis (cuts k ts) = true
  | [], k, _ => by simp [cuts, unis]
  | t :: ts, k, h => by
    simp only [unis, Bool.and_eq_true, List.all_eq_true, beq_iff_eq] at h
    simp only [cuts, unis, Bool.and_eq_true, List.all_eq_true, beq_iff_eq]
    refine ⟨⟨cut_uni t k h.1.1, fun x hx => ?_⟩, cuts_unis ts k h.2⟩
    obtain ⟨y, hy, rfl⟩ := cuts_mem hx
    rw [cut_dep, cut_dep, h.1.2 y hy]
end
theorem cut_good {t : VT} (k : Nat) (h : t.good = true) : (t.cut k).good = true := by
  simp only [VT.good, Bool.and_eq_true, decide_eq_true_eq] at h ⊢
  exact ⟨cut_uni t k h.1, by rw [cut_dep]; omega⟩

theorem dgt_dch {m n : Nat} (h : n ≤ m) (hm : m ≤ 9) (r : List UInt8) : dgt m (dch n :: r) = some (n, r) := by
  have := dch_nat (n := n) (by omega)
  simp only [dgt, this]
  rw [if_pos (by omega)]
  simp
theorem sgn_cons (b : UInt8) (r : List UInt8) : sgn b (b :: r) = some r := by simp [sgn]
mutual
theorem pv_txt : ∀ (t : VT) (k f : Nat) (r : List UInt8), t.wf = true → (t.txt k).length ≤ f → r.head? ≠ some 40 → pv f (t.txt k ++ r) = some (t.cut k, r)
  | .mk d i ps ts, k, f, r, h, hf, hr => by
    obtain ⟨h1, h2, h3, h4, h5⟩ := wf_mk.1 h
    cases f with
    | zero => simp [VT.txt] at hf
    | succ f =>
      simp only [VT.txt, VT.cut] at hf ⊢
      by_cases hk : k = 0 ∨ ts.isEmpty = true
      · simp only [if_pos hk, List.cons_append, List.nil_append]
        simp only [pv, dgt_dch h1 (by omega : 6 ≤ 9), sgn_cons, dgt_dch h2 (Nat.le_refl 9)]
        rw [if_pos (.inr hr)]
      · simp only [if_neg hk, List.cons_append, List.nil_append, List.append_assoc] at hf ⊢
        simp only [pv, dgt_dch h1 (by omega : 6 ≤ 9), sgn_cons, dgt_dch h2 (Nat.le_refl 9)]
        have hts : ts ≠ [] := fun e => hk (.inr (by simp [e]))
        have hd : ts.length = d := by rcases h4 with h4 | h4; exact absurd h4 hts; exact h4
        have hne : d ≠ 0 := by
          have := List.length_pos_iff.2 hts
          omega
        have hh : (txts (k - 1) 40 ps ts ++ (41 :: r)).head? = some 40 := by
          cases ts with
          | nil => exact absurd rfl hts
          | cons t ts => cases ps with
            | nil => simp at h3
            | cons p ps => simp [txts]
        simp only [List.length_cons, List.length_append, List.length_nil] at hf
        have ih := pks_txts ts ps (k - 1) 40 f (41 :: r) h5 h3 (by omega) (by simp)
        rw [hd] at ih
        rw [if_neg (by rw [hh]; simp [hne]), ih]
        simp [sgn]
theorem pks_txts : ∀ (ts : List VT) (ps : List Nat) (k : Nat) (s : UInt8) (f : Nat) (r : List UInt8), wfs ps ts = true → ps.length = ts.length → (txts k s ps ts).length ≤ f → r.head? ≠ some 40 →
    pks (pv f) ts.length s (txts k s ps ts ++ r) = some (ps, cuts k ts, r)
  | [], ps, k, s, f, r, _, hl, _, _ => by
    have : ps = [] := List.eq_nil_of_length_eq_zero (by simpa using hl)
    simp [pks, txts, cuts, this]
  | t :: ts, [], _, _, _, _, _, hl, _, _ => by simp at hl
  | t :: ts, p :: ps, k, s, f, r, h, hl, hf, hr => by
    obtain ⟨h1, h2, h3, h4⟩ := wfs_cons.1 h
    simp only [txts, List.length_cons, List.length_append] at hf
    have hh : (txts k 44 ps ts ++ r).head? ≠ some 40 := by
      cases ts with
      | nil => simpa [txts] using hr
      | cons t ts => cases ps with
        | nil => simp at hl
        | cons p ps => simp [txts]
    have i1 := pv_txt t k f (txts k 44 ps ts ++ r) h3 (by omega) hh
    have i2 := pks_txts ts ps k 44 f r h4 (by simpa using hl) (by omega) hr
    simp only [txts, List.length_cons, List.cons_append, List.append_assoc, cuts]
    simp only [pks, sgn_cons, dgt_dch h1 (by omega : 5 ≤ 9), i1, cut_deg, h2, if_true, i2]
end
theorem pg_txt {t : VT} {k f : Nat} (hw : t.wf = true) (hg : t.good = true) (hf : (t.txt k).length ≤ f) : pg f (t.txt k) = some (t.cut k, []) := by
  have := pv_txt t k f [] hw hf (by simp)
  rw [List.append_nil] at this
  simp only [pg, this, cut_good k hg, if_true]
end Go.Proofs.YtljjbhihllnnaaaGreat

namespace Go.Proofs.YtljjbhihllnnaaaGreat

theorem sgn_head {b : UInt8} {l : List UInt8} : (∃ r, sgn b l = some r) ↔ l.head? = some b := by
  cases l with
  | nil => simp [sgn]
  | cons c l => simp [sgn]
section
variable {f d i : Nat} {l l1 l2 l3 l4 : List UInt8}
theorem pv_no1 (h : dgt 6 l = none) : pv (f + 1) l = none := by simp [pv, h]
theorem pv_no2 (h1 : dgt 6 l = some (d, l1)) (h : sgn 46 l1 = none) : pv (f + 1) l = none := by simp [pv, h1, h]
theorem pv_no3 (h1 : dgt 6 l = some (d, l1)) (h2 : sgn 46 l1 = some l2) (h : dgt 9 l2 = none) : pv (f + 1) l = none := by simp [pv, h1, h2, h]
theorem pv_leaf (h1 : dgt 6 l = some (d, l1)) (h2 : sgn 46 l1 = some l2) (h3 : dgt 9 l2 = some (i, l3)) (h : d = 0 ∨ sgn 40 l3 = none) : pv (f + 1) l = some (.mk d i [] [], l3) := by
  simp only [pv, h1, h2, h3]
  rw [if_pos]
  rcases h with h | h
  · exact .inl h
  · refine .inr fun e => ?_
    obtain ⟨r, hr⟩ := sgn_head.2 e
    rw [h] at hr; cases hr
/-- what stands behind the parts -/
def fin (d i : Nat) (x : Option (List Nat × List VT × List UInt8)) : Option (VT × List UInt8) := match x with
  | none => none
  | some (ps, ts, l4) => match sgn 41 l4 with
    | none => none
    | some l5 => some (.mk d i ps ts, l5)
theorem pv_kids (h1 : dgt 6 l = some (d, l1)) (h2 : sgn 46 l1 = some l2) (h3 : dgt 9 l2 = some (i, l3)) (hd : d ≠ 0) (h : sgn 40 l3 = some l4) : pv (f + 1) l = fin d i (pks (pv f) d 40 l3) := by
  have hh := sgn_head.1 ⟨l4, h⟩
  simp only [pv, h1, h2, h3]
  rw [if_neg (by simp [hd, hh])]
  rfl
end
theorem pg_none {f : Nat} {l : List UInt8} (h : pv f l = none) : pg f l = none := by simp [pg, h]
theorem pg_bad {f : Nat} {l : List UInt8} (h : ∀ t r, pv f l = some (t, r) → t.good = false) : pg f l = none := by
  unfold pg
  cases hp : pv f l with
  | none => rfl
  | some x =>
    obtain ⟨t, r⟩ := x
    simp [h t r hp]
theorem pg_some {f : Nat} {l r : List UInt8} {t : VT} (h : pv f l = some (t, r)) (hg : t.good = true) : pg f l = some (t, r) := by simp [pg, h, hg]
theorem pg_inv {f : Nat} {l r : List UInt8} {t : VT} (h : pg f l = some (t, r)) : pv f l = some (t, r) ∧ t.good = true := by
  unfold pg at h
  split at h
  · cases h
  · split at h
    · simp at h; obtain ⟨rfl, rfl⟩ := h; exact ⟨by assumption, by assumption⟩
    · cases h
theorem pg_no {f : Nat} {l : List UInt8} (h : pg f l = none) : pv f l = none ∨ ∃ t r, pv f l = some (t, r) ∧ t.good = false := by
  unfold pg at h
  split at h
  · exact .inl (by assumption)
  · split at h
    · cases h
    · rename_i hq hn
      exact .inr ⟨_, _, hq, by simpa using hn⟩
theorem leaf_good (d i : Nat) : (VT.mk d i [] []).good = true := by simp [VT.good, VT.uni, unis, VT.dep, deps]
theorem fin_mem {d i : Nat} {ps : List Nat} {ts : List VT} {x : Option (List Nat × List VT × List UInt8)} {t : VT} {r : List UInt8} (h : fin d i (pre ps ts x) = some (t, r)) : ∀ u ∈ ts, u ∈ t.parts := by
  cases x with
  | none => simp [pre, fin] at h
  | some y =>
    obtain ⟨qs, us, l⟩ := y
    simp only [pre, Option.map_some, fin] at h
    split at h
    · cases h
    · simp at h; obtain ⟨rfl, rfl⟩ := h
      intro u hu
      simp [VT.parts, hu]
theorem good_parts {t u : VT} (h : t.good = true) (hu : u ∈ t.parts) : u.good = true := by
  obtain ⟨d, i, ps, ts⟩ := t
  exact good_part h hu
theorem good_parts_same {t u v : VT} (h : t.good = true) (hu : u ∈ t.parts) (hv : v ∈ t.parts) : u.dep = v.dep := by
  obtain ⟨d, i, ps, ts⟩ := t
  exact good_same h hu hv
/-- a part that is not good -/
theorem pg_part {f d i : Nat} {ps : List Nat} {ts : List VT} {x : Option (List Nat × List VT × List UInt8)} {l : List UInt8} (h : pv f l = fin d i (pre ps ts x)) {u : VT} (hu : u ∈ ts) (hb : u.good = false) : pg f l = none :=
  pg_bad fun t r ht => by
    cases hg : t.good
    · rfl
    · have := good_parts hg (fin_mem (h ▸ ht) u hu)
      rw [hb] at this; cases this
/-- two parts of different depths -/
theorem pg_differ {f d i : Nat} {ps : List Nat} {ts : List VT} {x : Option (List Nat × List VT × List UInt8)} {l : List UInt8} (h : pv f l = fin d i (pre ps ts x)) {u v : VT} (hu : u ∈ ts) (hv : v ∈ ts) (hb : u.dep ≠ v.dep) : pg f l = none :=
  pg_bad fun t r ht => by
    cases hg : t.good
    · rfl
    · exact absurd (good_parts_same hg (fin_mem (h ▸ ht) u hu) (fin_mem (h ▸ ht) v hv)) hb
theorem deps_same {ts : List VT} {k : Nat} (h : ∀ t ∈ ts, t.dep = k) (hn : ts ≠ []) : deps ts = k + 1 := by
  induction ts with
  | nil => exact absurd rfl hn
  | cons x ts ih =>
    have h1 := h x (by simp)
    simp only [deps]
    by_cases he : ts = []
    · subst he; simp [deps]; omega
    · have := ih (fun t ht => h t (by simp [ht])) he; omega
end Go.Proofs.YtljjbhihllnnaaaGreat
