/- View texts: what a parsed tree is like, what fits it, the text of its beginning. Plain lists of bytes; no program in sight. -/
import Derived.Test.YtclkboemgneojaaVt
namespace Go.Proofs.Ytclkboemgneojaa

mutual
/-- a tree that a parser gives -/
def VT.wf : VT → Bool | .mk d i ps ts => decide (d ≤ 6) && decide (i ≤ 9) && decide (ps.length = ts.length) && (ts.isEmpty || decide (ts.length = d)) && wfs ps ts
def wfs : List Nat → List VT → Bool
  | _, [] => true
  | [], _ :: _ => false
  | p :: ps, t :: ts => decide (p ≤ 5) && decide (p < t.deg) && t.wf && wfs ps ts
end
theorem wf_mk {d i : Nat} {ps : List Nat} {ts : List VT} : (VT.mk d i ps ts).wf = true ↔ d ≤ 6 ∧ i ≤ 9 ∧ ps.length = ts.length ∧ (ts = [] ∨ ts.length = d) ∧ wfs ps ts = true := by
  simp [VT.wf, and_assoc]
theorem wfs_cons {p : Nat} {ps : List Nat} {t : VT} {ts : List VT} : wfs (p :: ps) (t :: ts) = true ↔ p ≤ 5 ∧ p < t.deg ∧ t.wf = true ∧ wfs ps ts = true := by
  simp [wfs, and_assoc]

theorem pks_wf {p : List UInt8 → Option (VT × List UInt8)} (hp : ∀ l t r, p l = some (t, r) → t.wf = true) {n : Nat} {s : UInt8} {l r : List UInt8} {ps : List Nat} {ts : List VT} (h : pks p n s l = some (ps, ts, r)) :
    wfs ps ts = true ∧ ps.length = n ∧ ts.length = n := by
  induction n generalizing s l r ps ts with
  | zero => simp [pks] at h; obtain ⟨rfl, rfl, rfl⟩ := h; simp [wfs]
  | succ n ih =>
    unfold pks at h
    split at h; · cases h
    rename_i l1 h1
    split at h; · cases h
    rename_i j l2 h2
    split at h; · cases h
    rename_i l3 h3
    split at h; · cases h
    rename_i t l4 h4
    split at h
    · split at h; · cases h
      rename_i ps' ts' l5 h5
      simp at h
      obtain ⟨rfl, rfl, rfl⟩ := h
      obtain ⟨i1, i2, i3⟩ := ih h5
      have := dgt_len h2
      exact ⟨wfs_cons.2 ⟨by omega, by assumption, hp _ _ _ h4, i1⟩, by simp [i2], by simp [i3]⟩
    · cases h
theorem pv_wf {f : Nat} {l r : List UInt8} {t : VT} (h : pv f l = some (t, r)) : t.wf = true := by
  induction f generalizing l r t with
  | zero => cases h
  | succ f ih =>
    unfold pv at h
    split at h; · cases h
    rename_i d l1 h1
    split at h; · cases h
    rename_i l2 h2
    split at h; · cases h
    rename_i i l3 h3
    have := dgt_len h1
    have := dgt_len h3
    split at h
    · simp at h; obtain ⟨rfl, rfl⟩ := h
      exact wf_mk.2 ⟨by omega, by omega, rfl, .inl rfl, by simp [wfs]⟩
    · split at h; · cases h
      rename_i ps ts l4 h4
      split at h; · cases h
      simp at h; obtain ⟨rfl, rfl⟩ := h
      obtain ⟨i1, i2, i3⟩ := pks_wf (fun _ _ _ => ih) h4
      exact wf_mk.2 ⟨by omega, by omega, by omega, .inr i3, i1⟩

mutual
theorem fits_iff : ∀ (t : VT) (k : Nat), t.wf = true → (t.fits k = true ↔ (t.deg = 0 ∨ (t.uni = true ∧ t.dep = k)))
  | .mk d i ps ts, k, h => by
    obtain ⟨h1, h2, h3, h4, h5⟩ := wf_mk.1 h
    have ih := fitss_iff ts ps (k - 1) h5
    simp only [VT.fits, VT.deg, uni_mk, dep_mk, Bool.or_eq_true, beq_iff_eq, Bool.and_eq_true]
    by_cases hd : d = 0
    · simp [hd]
    · simp only [hd, false_or]
      rw [ih, unis_iff]
      cases ts with
      | nil => simp [deps]; exact eq_comm
      | cons x ts =>
        simp only [List.isEmpty_cons]
        constructor
        · rintro ⟨e, hx⟩
          have hk : k ≠ 0 := by simpa using e
          have e2 : deps (x :: ts) = k := by
            have := (unis_iff (ts := x :: ts)).1
            have key : ∀ us : List VT, us ≠ [] → (∀ t ∈ us, t.uni = true ∧ t.dep = k - 1) → deps us = k := by
              intro us
              induction us with
              | nil => intro h; exact absurd rfl h
              | cons y us ih =>
                intro _ h
                have := (h y (by simp)).2
                simp only [deps]
                cases us with
                | nil => simp [deps]; omega
                | cons z us => have := ih (by simp) (fun t ht => h t (by simp [List.mem_cons.1 ht])); omega
            exact key _ (by simp) hx
          exact ⟨⟨fun t ht => (hx t ht).1, fun t ht => by have := (hx t ht).2; omega⟩, e2⟩
        · rintro ⟨⟨a1, a2⟩, e⟩
          have := a2 x (by simp)
          refine ⟨by have : k ≠ 0 := by omega
                     simp [this], fun t ht => ⟨a1 t ht, by have := a2 t ht; omega⟩⟩
theorem fitss_iff : ∀ (ts : List VT) (ps : List Nat) (k : Nat), wfs ps ts = true → (fitss ts k = true ↔ ∀ t ∈ ts, t.uni = true ∧ t.dep = k)
  | [], _, _, _ => by simp [fitss]
  | t :: ts, [], _, h => by simp [wfs] at h
  | t :: ts, p :: ps, k, h => by
    obtain ⟨h1, h2, h3, h4⟩ := wfs_cons.1 h
    have i1 := fits_iff t k h3
    have i2 := fitss_iff ts ps k h4
    have hd : t.deg ≠ 0 := by omega
    simp only [fitss, Bool.and_eq_true, i1, i2, hd, false_or, List.mem_cons, forall_eq_or_imp]
end

/-- the reference's test is the program's -/
theorem good_fits {t : VT} (h : t.wf = true) : (decide (t.dep ≤ 80) && t.fits t.dep) = t.good := by
  rw [Bool.eq_iff_iff]
  simp only [Bool.and_eq_true, decide_eq_true_eq, VT.good]
  rw [fits_iff t _ h]
  constructor
  · rintro ⟨h1, h2 | h2⟩
    · obtain ⟨d, i, ps, ts⟩ := t
      obtain ⟨a1, a2, a3, a4, a5⟩ := wf_mk.1 h
      simp only [VT.deg] at h2
      have : ts = [] := by
        rcases a4 with a4 | a4
        · exact a4
        · exact List.eq_nil_of_length_eq_zero (by omega)
      subst this
      exact ⟨by simp [VT.uni, unis], h1⟩
    · exact ⟨h2.1, h1⟩
  · rintro ⟨h1, h2⟩
    exact ⟨h2, .inr ⟨h1, rfl⟩⟩

/-- a digit -/
def dch (n : Nat) : UInt8 := UInt8.ofNat (48 + n)
theorem dch_nat {n : Nat} (h : n ≤ 9) : (dch n).toNat = 48 + n := by simp [dch]; omega
mutual
/-- the text of the beginning of depth k -/
def VT.txt : Nat → VT → List UInt8 | k, .mk d i ps ts => dch d :: 46 :: dch i :: (if k = 0 ∨ ts.isEmpty = true then [] else txts (k - 1) 40 ps ts ++ [41])
def txts : Nat → UInt8 → List Nat → List VT → List UInt8
  | _, _, _, [] => []
  | _, _, [], _ :: _ => []
  | k, s, p :: ps, t :: ts => s :: dch p :: 58 :: (t.txt k ++ txts k 44 ps ts)
end
mutual
/-- the beginning of depth k -/
def VT.cut : Nat → VT → VT | k, .mk d i ps ts => if k = 0 ∨ ts.isEmpty = true then .mk d i [] [] else .mk d i ps (cuts (k - 1) ts)
def cuts : Nat → List VT → List VT | _, [] => [] | k, t :: ts => t.cut k :: cuts k ts
end
theorem cuts_len (k : Nat) (ts : List VT) : (cuts k ts).length = ts.length := by
  induction ts with
  | nil => simp [cuts]
  | cons t ts ih => simp [cuts, ih]
theorem cuts_mem {k : Nat} {ts : List VT} {u : VT} (h : u ∈ cuts k ts) : ∃ t ∈ ts, u = t.cut k := by
  induction ts with
  | nil => simp [cuts] at h
  | cons t ts ih =>
    simp only [cuts, List.mem_cons] at h
    rcases h with rfl | h
    · exact ⟨t, by simp, rfl⟩
    · obtain ⟨x, hx, e⟩ := ih h
      exact ⟨x, by simp [hx], e⟩
theorem cut_deg (k : Nat) (t : VT) : (t.cut k).deg = t.deg := by
  obtain ⟨d, i, ps, ts⟩ := t
  simp only [VT.cut]
  split <;> rfl

mutual
theorem cut_dep : ∀ (t : VT) (k : Nat), (t.cut k).dep = min k t.dep
  | .mk d i ps ts, k => by
    simp only [VT.cut]
    split
    · rename_i h
      rcases h with h | h
      · simp [dep_mk, deps, h]
      · have : ts = [] := by simpa using h
        simp [dep_mk, deps, this]
    · rename_i h
      have hk : k ≠ 0 := fun e => h (.inl e)
      rw [dep_mk, dep_mk, cuts_deps ts (k - 1)]
      have : ts ≠ [] := fun e => h (.inr (by simp [e]))
      have := deps_pos this
      simp only [if_neg ‹ts ≠ []›]
      omega
theorem cuts_deps : ∀ (ts : List VT) (k : Nat), deps (cuts k ts) = if ts = [] then 0 else min (k + 1) (deps ts)
  | [], k => by simp [cuts, deps]
  | t :: ts, k => by
    simp only [cuts, deps, cut_dep t k, cuts_deps ts k]
    cases ts with
    | nil => simp [deps]
    | cons x ts => simp only [reduceCtorEq, if_false]; omega
end
mutual
theorem cut_uni : ∀ (t : VT) (k : Nat), t.uni = true → (t.cut k).uni = true
  | .mk d i ps ts, k, h => by
    simp only [VT.cut]
    split
    · simp [uni_mk, unis]
    · rw [uni_mk] at h ⊢
      exact cuts_unis ts (k - 1) h
theorem cuts_unis : ∀ (ts : List VT) (k : Nat), unis ts = true → unis (cuts k ts) = true
  | [], k, _ => by simp [cuts, unis]
  | t :: ts, k, h => by
    simp only [unis, Bool.and_eq_true, List.all_eq_true, beq_iff_eq] at h
    simp only [cuts, unis, Bool.and_eq_true, List.all_eq_true, beq_iff_eq]
    refine ⟨⟨cut_uni t k h.1.1, fun x hx => ?_⟩, cuts_unis ts k h.2⟩
    obtain ⟨y, hy, rfl⟩ := cuts_mem hx
    rw [cut_dep, cut_dep, h.1.2 y hy]
end
theorem cut_good {t : VT} (k : Nat) (h : t.good = true) : (t.cut k).good = true := by
  simp only [VT.good, Bool.and_eq_true, decide_eq_true_eq] at h ⊢
  exact ⟨cut_uni t k h.1, by rw [cut_dep]; omega⟩

theorem dgt_dch {m n : Nat} (h : n ≤ m) (hm : m ≤ 9) (r : List UInt8) : dgt m (dch n :: r) = some (n, r) := by
  have := dch_nat (n := n) (by omega)
  simp only [dgt, this]
  rw [if_pos (by omega)]
  simp
theorem sgn_cons (b : UInt8) (r : List UInt8) : sgn b (b :: r) = some r := by simp [sgn]
mutual
theorem pv_txt : ∀ (t : VT) (k f : Nat) (r : List UInt8), t.wf = true → (t.txt k).length ≤ f → r.head? ≠ some 40 → pv f (t.txt k ++ r) = some (t.cut k, r)
  | .mk d i ps ts, k, f, r, h, hf, hr => by
    obtain ⟨h1, h2, h3, h4, h5⟩ := wf_mk.1 h
    cases f with
    | zero => simp [VT.txt] at hf
    | succ f =>
      simp only [VT.txt, VT.cut] at hf ⊢
      by_cases hk : k = 0 ∨ ts.isEmpty = true
      · simp only [if_pos hk, List.cons_append, List.nil_append]
        simp only [pv, dgt_dch h1 (by omega : 6 ≤ 9), sgn_cons, dgt_dch h2 (Nat.le_refl 9)]
        rw [if_pos (.inr hr)]
      · simp only [if_neg hk, List.cons_append, List.nil_append, List.append_assoc] at hf ⊢
        simp only [pv, dgt_dch h1 (by omega : 6 ≤ 9), sgn_cons, dgt_dch h2 (Nat.le_refl 9)]
        have hts : ts ≠ [] := fun e => hk (.inr (by simp [e]))
        have hd : ts.length = d := by rcases h4 with h4 | h4; exact absurd h4 hts; exact h4
        have hne : d ≠ 0 := by
          have := List.length_pos_iff.2 hts
          omega
        have hh : (txts (k - 1) 40 ps ts ++ (41 :: r)).head? = some 40 := by
          cases ts with
          | nil => exact absurd rfl hts
          | cons t ts => cases ps with
            | nil => simp at h3
            | cons p ps => simp [txts]
        simp only [List.length_cons, List.length_append, List.length_nil] at hf
        have ih := pks_txts ts ps (k - 1) 40 f (41 :: r) h5 h3 (by omega) (by simp)
        rw [hd] at ih
        rw [if_neg (by rw [hh]; simp [hne]), ih]
        simp [sgn]
theorem pks_txts : ∀ (ts : List VT) (ps : List Nat) (k : Nat) (s : UInt8) (f : Nat) (r : List UInt8), wfs ps ts = true → ps.length = ts.length → (txts k s ps ts).length ≤ f → r.head? ≠ some 40 →
    pks (pv f) ts.length s (txts k s ps ts ++ r) = some (ps, cuts k ts, r)
  | [], ps, k, s, f, r, _, hl, _, _ => by
    have : ps = [] := List.eq_nil_of_length_eq_zero (by simpa using hl)
    simp [pks, txts, cuts, this]
  | t :: ts, [], _, _, _, _, _, hl, _, _ => by simp at hl
  | t :: ts, p :: ps, k, s, f, r, h, hl, hf, hr => by
    obtain ⟨h1, h2, h3, h4⟩ := wfs_cons.1 h
    simp only [txts, List.length_cons, List.length_append] at hf
    have hh : (txts k 44 ps ts ++ r).head? ≠ some 40 := by
      cases ts with
      | nil => simpa [txts] using hr
      | cons t ts => cases ps with
        | nil => simp at hl
        | cons p ps => simp [txts]
    have i1 := pv_txt t k f (txts k 44 ps ts ++ r) h3 (by omega) hh
    have i2 := pks_txts ts ps k 44 f r h4 (by simpa using hl) (by omega) hr
    simp only [txts, List.length_cons, List.cons_append, List.append_assoc, cuts]
    simp only [pks, sgn_cons, dgt_dch h1 (by omega : 5 ≤ 9), i1, cut_deg, h2, if_true, i2]
end
theorem pg_txt {t : VT} {k f : Nat} (hw : t.wf = true) (hg : t.good = true) (hf : (t.txt k).length ≤ f) : pg f (t.txt k) = some (t.cut k, []) := by
  have := pv_txt t k f [] hw hf (by simp)
  rw [List.append_nil] at this
  simp only [pg, this, cut_good k hg, if_true]
end Go.Proofs.Ytclkboemgneojaa
