/- View texts: trees, the parser, depths, the cut text. Plain lists of bytes; no program in sight. -/
import Derived.Test.YtclkboemgneojaaFun
namespace Go.Proofs.Ytclkboemgneojaa

/-- a view that was read: its degree, its input, the ports and the parts -/
inductive VT where
  | mk (deg inp : Nat) (ports : List Nat) (parts : List VT) : VT

namespace VT
def deg : VT → Nat | mk d _ _ _ => d
def inp : VT → Nat | mk _ i _ _ => i
def ports : VT → List Nat | mk _ _ ps _ => ps
def parts : VT → List VT | mk _ _ _ ts => ts
end VT

mutual
/-- the depth: one more than that of the deepest part -/
def VT.dep : VT → Nat | .mk _ _ _ ts => deps ts
def deps : List VT → Nat | [] => 0 | t :: ts => max (t.dep + 1) (deps ts)
end
mutual
/-- all parts have one depth -/
def VT.uni : VT → Bool | .mk _ _ _ ts => unis ts
def unis : List VT → Bool | [] => true | t :: ts => t.uni && (ts.all fun x => x.dep == t.dep) && unis ts
end
mutual
/-- the view can have the depth k -/
def VT.fits : VT → Nat → Bool | .mk d _ _ ts, k => d == 0 || ((ts.isEmpty == (k == 0)) && fitss ts (k - 1))
def fitss : List VT → Nat → Bool | [], _ => true | t :: ts, k => t.fits k && fitss ts k
end

/-- a digit of at most a number -/
def dgt (most : Nat) : List UInt8 → Option (Nat × List UInt8)
  | [] => none
  | c :: r => if 48 ≤ c.toNat ∧ c.toNat ≤ 48 + most then some (c.toNat - 48, r) else none
/-- a given byte -/
def sgn (b : UInt8) : List UInt8 → Option (List UInt8)
  | [] => none
  | c :: r => if c = b then some r else none
/-- n parts, the first behind the byte s, the others behind a comma -/
def pks (p : List UInt8 → Option (VT × List UInt8)) : Nat → UInt8 → List UInt8 → Option (List Nat × List VT × List UInt8)
  | 0, _, l => some ([], [], l)
  | n + 1, s, l =>
    match sgn s l with
    | none => none
    | some l1 => match dgt 5 l1 with
      | none => none
      | some (j, l2) => match sgn 58 l2 with
        | none => none
        | some l3 => match p l3 with
          | none => none
          | some (t, l4) => if j < t.deg then
              match pks p n 44 l4 with
              | none => none
              | some (ps, ts, l5) => some (j :: ps, t :: ts, l5)
            else none
/-- a view -/
def pv : Nat → List UInt8 → Option (VT × List UInt8)
  | 0, _ => none
  | f + 1, l =>
    match dgt 6 l with
    | none => none
    | some (d, l1) => match sgn 46 l1 with
      | none => none
      | some l2 => match dgt 9 l2 with
        | none => none
        | some (i, l3) => if d = 0 ∨ l3.head? ≠ some 40 then some (.mk d i [] [], l3) else
            match pks (pv f) d 40 l3 with
            | none => none
            | some (ps, ts, l4) => match sgn 41 l4 with
              | none => none
              | some l5 => some (.mk d i ps ts, l5)

theorem dgt_len {m : Nat} {l r : List UInt8} {d : Nat} (h : dgt m l = some (d, r)) : l.length = r.length + 1 ∧ d ≤ m := by
  cases l with
  | nil => simp [dgt] at h
  | cons c l =>
    simp only [dgt] at h
    split at h
    · simp at h; obtain ⟨rfl, rfl⟩ := h; simp; omega
    · cases h
theorem sgn_len {b : UInt8} {l r : List UInt8} (h : sgn b l = some r) : l.length = r.length + 1 := by
  cases l with
  | nil => simp [sgn] at h
  | cons c l =>
    simp only [sgn] at h
    split at h
    · simp at h; subst h; simp
    · cases h

theorem pks_len {p : List UInt8 → Option (VT × List UInt8)} (hp : ∀ l t r, p l = some (t, r) → r.length + 3 ≤ l.length) {n : Nat} {s : UInt8} {l r : List UInt8} {ps : List Nat} {ts : List VT} (h : pks p n s l = some (ps, ts, r)) :
    r.length + 6 * n ≤ l.length ∧ ps.length = n ∧ ts.length = n := by
  induction n generalizing s l r ps ts with
  | zero => simp [pks] at h; obtain ⟨rfl, rfl, rfl⟩ := h; simp
  | succ n ih =>
    unfold pks at h
    split at h; · cases h
    rename_i l1 h1
    split at h; · cases h
    rename_i j l2 h2
    split at h; · cases h
    rename_i l3 h3
    split at h; · cases h
    rename_i t l4 h4
    split at h
    · split at h; · cases h
      rename_i ps' ts' l5 h5
      simp at h
      obtain ⟨rfl, rfl, rfl⟩ := h
      have := ih h5
      have := sgn_len h1
      have := dgt_len h2
      have := sgn_len h3
      have := hp _ _ _ h4
      simp; omega
    · cases h
theorem pv_len {f : Nat} {l r : List UInt8} {t : VT} (h : pv f l = some (t, r)) : r.length + 3 ≤ l.length := by
  induction f generalizing l r t with
  | zero => cases h
  | succ f ih =>
    unfold pv at h
    split at h; · cases h
    rename_i d l1 h1
    split at h; · cases h
    rename_i l2 h2
    split at h; · cases h
    rename_i i l3 h3
    have := dgt_len h1
    have := sgn_len h2
    have := dgt_len h3
    split at h
    · simp at h; obtain ⟨rfl, rfl⟩ := h; omega
    · split at h; · cases h
      rename_i ps ts l4 h4
      split at h; · cases h
      rename_i l5 h5
      simp at h; obtain ⟨rfl, rfl⟩ := h
      have := sgn_len h5
      have := (pks_len (fun _ _ _ => ih) h4).1
      omega

theorem deps_snoc (ts : List VT) (t : VT) : deps (ts ++ [t]) = max (deps ts) (t.dep + 1) := by
  induction ts with
  | nil => simp [deps]
  | cons x ts ih => simp only [List.cons_append, deps, ih]; omega
theorem deps_ge {ts : List VT} {t : VT} (h : t ∈ ts) : t.dep + 1 ≤ deps ts := by
  induction ts with
  | nil => cases h
  | cons x ts ih =>
    simp only [deps]
    rcases List.mem_cons.1 h with rfl | h
    · omega
    · have := ih h; omega
theorem deps_pos {ts : List VT} (h : ts ≠ []) : 0 < deps ts := by
  cases ts with
  | nil => exact absurd rfl h
  | cons x ts => simp only [deps]; omega

/-- what has been read before, put ahead of what comes -/
def pre (ps : List Nat) (ts : List VT) (x : Option (List Nat × List VT × List UInt8)) : Option (List Nat × List VT × List UInt8) := x.map fun (qs, us, r) => (ps ++ qs, ts ++ us, r)
theorem pre_none (ps : List Nat) (ts : List VT) : pre ps ts none = none := rfl
theorem pre_nil (x : Option (List Nat × List VT × List UInt8)) : pre [] [] x = x := by
  cases x <;> rfl
theorem pre_zero (p : List UInt8 → Option (VT × List UInt8)) (s : UInt8) (l : List UInt8) (ps : List Nat) (ts : List VT) : pre ps ts (pks p 0 s l) = some (ps, ts, l) := by simp [pre, pks]
/-- one more part -/
theorem pre_step (p : List UInt8 → Option (VT × List UInt8)) {n : Nat} {s : UInt8} {l l1 l2 l3 l4 : List UInt8} {j : Nat} {t : VT} (ps : List Nat) (ts : List VT)
    (h1 : sgn s l = some l1) (h2 : dgt 5 l1 = some (j, l2)) (h3 : sgn 58 l2 = some l3) (h4 : p l3 = some (t, l4)) (h5 : j < t.deg) :
    pre ps ts (pks p (n + 1) s l) = pre (ps ++ [j]) (ts ++ [t]) (pks p n 44 l4) := by
  rw [pks, h1]
  simp only [h2, h3, h4, h5, if_true]
  cases pks p n 44 l4 with
  | none => rfl
  | some x => obtain ⟨qs, us, r⟩ := x; simp [pre]
theorem pks_none1 (p : List UInt8 → Option (VT × List UInt8)) {n : Nat} {s : UInt8} {l : List UInt8} (h : sgn s l = none) : pks p (n + 1) s l = none := by simp [pks, h]
theorem pks_none2 (p : List UInt8 → Option (VT × List UInt8)) {n : Nat} {s : UInt8} {l l1 : List UInt8} (h1 : sgn s l = some l1) (h : dgt 5 l1 = none) : pks p (n + 1) s l = none := by simp [pks, h1, h]
theorem pks_none3 (p : List UInt8 → Option (VT × List UInt8)) {n : Nat} {s : UInt8} {l l1 l2 : List UInt8} {j : Nat} (h1 : sgn s l = some l1) (h2 : dgt 5 l1 = some (j, l2)) (h : sgn 58 l2 = none) : pks p (n + 1) s l = none := by simp [pks, h1, h2, h]
theorem pks_none4 (p : List UInt8 → Option (VT × List UInt8)) {n : Nat} {s : UInt8} {l l1 l2 l3 : List UInt8} {j : Nat} (h1 : sgn s l = some l1) (h2 : dgt 5 l1 = some (j, l2)) (h3 : sgn 58 l2 = some l3) (h : p l3 = none) : pks p (n + 1) s l = none := by simp [pks, h1, h2, h3, h]
theorem pks_none5 (p : List UInt8 → Option (VT × List UInt8)) {n : Nat} {s : UInt8} {l l1 l2 l3 l4 : List UInt8} {j : Nat} {t : VT} (h1 : sgn s l = some l1) (h2 : dgt 5 l1 = some (j, l2)) (h3 : sgn 58 l2 = some l3) (h4 : p l3 = some (t, l4)) (h : ¬ j < t.deg) : pks p (n + 1) s l = none := by simp [pks, h1, h2, h3, h4, h]

/-- what the program takes: one depth everywhere, at most 80 -/
def VT.good (t : VT) : Bool := t.uni && decide (t.dep ≤ 80)
/-- what the parser of the program gives -/
def pg (f : Nat) (l : List UInt8) : Option (VT × List UInt8) := match pv f l with
  | none => none
  | some (t, r) => if t.good = true then some (t, r) else none

theorem uni_mk {d i : Nat} {ps : List Nat} {ts : List VT} : (VT.mk d i ps ts).uni = unis ts := by simp [VT.uni]
theorem dep_mk {d i : Nat} {ps : List Nat} {ts : List VT} : (VT.mk d i ps ts).dep = deps ts := by simp [VT.dep]
theorem unis_iff {ts : List VT} : unis ts = true ↔ (∀ t ∈ ts, t.uni = true) ∧ ∀ t ∈ ts, t.dep + 1 = deps ts := by
  induction ts with
  | nil => simp [unis]
  | cons x ts ih =>
    simp only [unis, Bool.and_eq_true, List.all_eq_true, beq_iff_eq, ih, List.mem_cons, forall_eq_or_imp, deps]
    constructor
    · rintro ⟨⟨h1, h2⟩, h3, h4⟩
      have h5 : max (x.dep + 1) (deps ts) = x.dep + 1 := by
        cases ts with
        | nil => simp [deps]
        | cons y ts =>
          have := h4 y (by simp)
          have := h2 y (by simp)
          omega
      exact ⟨⟨h1, h3⟩, by omega, fun t ht => by have := h2 t ht; omega⟩
    · rintro ⟨⟨h1, h3⟩, h5, h6⟩
      have h7 : ∀ t ∈ ts, t.dep = x.dep := fun t ht => by have := h6 t ht; omega
      refine ⟨⟨h1, h7⟩, h3, fun t ht => ?_⟩
      have h8 : deps ts ≤ max (x.dep + 1) (deps ts) := by omega
      have := deps_ge ht
      have := h6 t ht
      omega

/-- a part that is not good, or one of another depth: the whole is not good -/
theorem good_part {d i : Nat} {ps : List Nat} {ts : List VT} {t : VT} (h : (VT.mk d i ps ts).good = true) (ht : t ∈ ts) : t.good = true := by
  simp only [VT.good, Bool.and_eq_true, decide_eq_true_eq, uni_mk, dep_mk] at h ⊢
  obtain ⟨h1, h2⟩ := unis_iff.1 h.1
  exact ⟨h1 t ht, by have := deps_ge ht; omega⟩
theorem good_same {d i : Nat} {ps : List Nat} {ts : List VT} {t u : VT} (h : (VT.mk d i ps ts).good = true) (ht : t ∈ ts) (hu : u ∈ ts) : t.dep = u.dep := by
  simp only [VT.good, Bool.and_eq_true, uni_mk] at h
  obtain ⟨h1, h2⟩ := unis_iff.1 h.1
  have := h2 t ht
  have := h2 u hu
  omega
theorem good_mk {d i : Nat} {ps : List Nat} {ts : List VT} (h1 : ∀ t ∈ ts, t.good = true) (h2 : ∀ t ∈ ts, ∀ u ∈ ts, t.dep = u.dep) (h3 : deps ts ≤ 80) : (VT.mk d i ps ts).good = true := by
  simp only [VT.good, Bool.and_eq_true, decide_eq_true_eq, uni_mk, dep_mk]
  refine ⟨unis_iff.2 ⟨fun t ht => ?_, ?_⟩, h3⟩
  · have := h1 t ht
    simp only [VT.good, Bool.and_eq_true] at this
    exact this.1
  · have key : ∀ us : List VT, (∀ t ∈ us, ∀ u ∈ us, t.dep = u.dep) → ∀ t ∈ us, t.dep + 1 = deps us := by
      intro us
      induction us with
      | nil => intro _ t ht; cases ht
      | cons x us ih =>
        intro h t ht
        have h4 : t.dep = x.dep := h t ht x (by simp)
        simp only [deps]
        cases us with
        | nil => simp [deps]; omega
        | cons y us =>
          have := ih (fun t ht u hu => h t (by simp [List.mem_cons.1 ht]) u (by simp [List.mem_cons.1 hu])) y (by simp)
          have := h y (by simp) x (by simp)
          omega
    exact key ts h2
end Go.Proofs.Ytclkboemgneojaa
