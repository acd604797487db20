/- View texts: the parser, step by step. Plain lists of bytes; no program in sight. -/
import Derived.Test.YtclkboemgneojaaVt2
namespace Go.Proofs.Ytclkboemgneojaa

theorem sgn_head {b : UInt8} {l : List UInt8} : (∃ r, sgn b l = some r) ↔ l.head? = some b := by
  cases l with
  | nil => simp [sgn]
  | cons c l => simp [sgn]
section
variable {f d i : Nat} {l l1 l2 l3 l4 : List UInt8}
theorem pv_no1 (h : dgt 6 l = none) : pv (f + 1) l = none := by simp [pv, h]
theorem pv_no2 (h1 : dgt 6 l = some (d, l1)) (h : sgn 46 l1 = none) : pv (f + 1) l = none := by simp [pv, h1, h]
theorem pv_no3 (h1 : dgt 6 l = some (d, l1)) (h2 : sgn 46 l1 = some l2) (h : dgt 9 l2 = none) : pv (f + 1) l = none := by simp [pv, h1, h2, h]
theorem pv_leaf (h1 : dgt 6 l = some (d, l1)) (h2 : sgn 46 l1 = some l2) (h3 : dgt 9 l2 = some (i, l3)) (h : d = 0 ∨ sgn 40 l3 = none) : pv (f + 1) l = some (.mk d i [] [], l3) := by
  simp only [pv, h1, h2, h3]
  rw [if_pos]
  rcases h with h | h
  · exact .inl h
  · refine .inr fun e => ?_
    obtain ⟨r, hr⟩ := sgn_head.2 e
    rw [h] at hr; cases hr
/-- what stands behind the parts -/
def fin (d i : Nat) (x : Option (List Nat × List VT × List UInt8)) : Option (VT × List UInt8) := match x with
  | none => none
  | some (ps, ts, l4) => match sgn 41 l4 with
    | none => none
    | some l5 => some (.mk d i ps ts, l5)
theorem pv_kids (h1 : dgt 6 l = some (d, l1)) (h2 : sgn 46 l1 = some l2) (h3 : dgt 9 l2 = some (i, l3)) (hd : d ≠ 0) (h : sgn 40 l3 = some l4) : pv (f + 1) l = fin d i (pks (pv f) d 40 l3) := by
  have hh := sgn_head.1 ⟨l4, h⟩
  simp only [pv, h1, h2, h3]
  rw [if_neg (by simp [hd, hh])]
  rfl
end
theorem pg_none {f : Nat} {l : List UInt8} (h : pv f l = none) : pg f l = none := by simp [pg, h]
theorem pg_bad {f : Nat} {l : List UInt8} (h : ∀ t r, pv f l = some (t, r) → t.good = false) : pg f l = none := by
  unfold pg
  cases hp : pv f l with
  | none => rfl
  | some x =>
    obtain ⟨t, r⟩ := x
    simp [h t r hp]
theorem pg_some {f : Nat} {l r : List UInt8} {t : VT} (h : pv f l = some (t, r)) (hg : t.good = true) : pg f l = some (t, r) := by simp [pg, h, hg]
theorem pg_inv {f : Nat} {l r : List UInt8} {t : VT} (h : pg f l = some (t, r)) : pv f l = some (t, r) ∧ t.good = true := by
  unfold pg at h
  split at h
  · cases h
  · split at h
    · simp at h; obtain ⟨rfl, rfl⟩ := h; exact ⟨by assumption, by assumption⟩
    · cases h
theorem pg_no {f : Nat} {l : List UInt8} (h : pg f l = none) : pv f l = none ∨ ∃ t r, pv f l = some (t, r) ∧ t.good = false := by
  unfold pg at h
  split at h
  · exact .inl (by assumption)
  · split at h
    · cases h
    · rename_i hq hn
      exact .inr ⟨_, _, hq, by simpa using hn⟩
theorem leaf_good (d i : Nat) : (VT.mk d i [] []).good = true := by simp [VT.good, VT.uni, unis, VT.dep, deps]
theorem fin_mem {d i : Nat} {ps : List Nat} {ts : List VT} {x : Option (List Nat × List VT × List UInt8)} {t : VT} {r : List UInt8} (h : fin d i (pre ps ts x) = some (t, r)) : ∀ u ∈ ts, u ∈ t.parts := by
  cases x with
  | none => simp [pre, fin] at h
  | some y =>
    obtain ⟨qs, us, l⟩ := y
    simp only [pre, Option.map_some, fin] at h
    split at h
    · cases h
    · simp at h; obtain ⟨rfl, rfl⟩ := h
      intro u hu
      simp [VT.parts, hu]
theorem good_parts {t u : VT} (h : t.good = true) (hu : u ∈ t.parts) : u.good = true := by
  obtain ⟨d, i, ps, ts⟩ := t
  exact good_part h hu
theorem good_parts_same {t u v : VT} (h : t.good = true) (hu : u ∈ t.parts) (hv : v ∈ t.parts) : u.dep = v.dep := by
  obtain ⟨d, i, ps, ts⟩ := t
  exact good_same h hu hv
/-- a part that is not good -/
theorem pg_part {f d i : Nat} {ps : List Nat} {ts : List VT} {x : Option (List Nat × List VT × List UInt8)} {l : List UInt8} (h : pv f l = fin d i (pre ps ts x)) {u : VT} (hu : u ∈ ts) (hb : u.good = false) : pg f l = none :=
  pg_bad fun t r ht => by
    cases hg : t.good
    · rfl
    · have := good_parts hg (fin_mem (h ▸ ht) u hu)
      rw [hb] at this; cases this
/-- two parts of different depths -/
theorem pg_differ {f d i : Nat} {ps : List Nat} {ts : List VT} {x : Option (List Nat × List VT × List UInt8)} {l : List UInt8} (h : pv f l = fin d i (pre ps ts x)) {u v : VT} (hu : u ∈ ts) (hv : v ∈ ts) (hb : u.dep ≠ v.dep) : pg f l = none :=
  pg_bad fun t r ht => by
    cases hg : t.good
    · rfl
    · exact absurd (good_parts_same hg (fin_mem (h ▸ ht) u hu) (fin_mem (h ▸ ht) v hv)) hb
theorem deps_same {ts : List VT} {k : Nat} (h : ∀ t ∈ ts, t.dep = k) (hn : ts ≠ []) : deps ts = k + 1 := by
  induction ts with
  | nil => exact absurd rfl hn
  | cons x ts ih =>
    have h1 := h x (by simp)
    simp only [deps]
    by_cases he : ts = []
    · subst he; simp [deps]; omega
    · have := ih (fun t ht => h t (by simp [ht])) he; omega
end Go.Proofs.Ytclkboemgneojaa
