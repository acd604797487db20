/- How a view that was read lies in memory: a node of five cells, its ports, its parts. No program's function in sight. -/
import Derived.Test.YtclkboemgneojaaGen
import Derived.Test.YtclkboemgneojaaVt2
namespace Go.Proofs.Ytclkboemgneojaa
open Go.RowKit

/-- natural numbers as integers -/
def zs (ps : List Nat) : List Int := ps.map Int.ofNat
theorem zs_len (ps : List Nat) : (zs ps).length = ps.length := by simp [zs]
theorem zs_snoc (ps : List Nat) (j : Nat) : zs (ps ++ [j]) = zs ps ++ [(j : Int)] := by simp [zs]
theorem gi_zs {ps : List Nat} {j : Nat} (h : j < ps.length) : gi (zs ps) j = ((ga ps j : Nat) : Int) := by simp [gi, zs, ga, h]
instance : Inhabited VT := ⟨.mk 0 0 [] []⟩

mutual
def TreeR (w : World) (S : Nat → Prop) : VT → Nat → Prop
  | .mk d i ps ts, b => S b ∧ b < w.heap.size ∧ ∃ vp vt qs, w.cell? ⟨b, 0, none⟩ = some (.int .i64 d) ∧ w.cell? ⟨b, 1, none⟩ = some (.int .i64 i) ∧ w.cell? ⟨b, 2, none⟩ = some vp ∧ w.cell? ⟨b, 3, none⟩ = some vt ∧
      w.cell? ⟨b, 4, none⟩ = some (.int .i64 (deps ts : Nat)) ∧ IntsR w S vp (zs ps) ∧ SlR encP w S vt qs ∧ TreesR w S ts qs
def TreesR (w : World) (S : Nat → Prop) : List VT → List Nat → Prop
  | [], qs => qs = []
  | t :: ts, qs => ∃ q rs, qs = q :: rs ∧ TreeR w S t q ∧ TreesR w S ts rs
end
section
variable {w w' : World} {S S' : Nat → Prop}
theorem IntsR.sized {v : Value} {xs : List Int} (h : IntsR w S v xs) : IntsR w (fun b => S b ∧ b < w.heap.size) v xs := by
  obtain ⟨A, c, hv, h1, h2, h3⟩ := h
  refine ⟨A, c, hv, h1, h2, fun hn => ?_⟩
  obtain ⟨b, off, hA, hb, hc⟩ := h3 hn
  exact ⟨b, off, hA, ⟨hb, lt_of_cell (hc 0 hn)⟩, hc⟩
theorem SlR.sized {α : Type} [Inhabited α] {E : Enc α} {v : Value} {xs : List α} (h : SlR E w S v xs) : SlR E w (fun b => S b ∧ b < w.heap.size) v xs := by
  obtain ⟨A, c, hv, h1, h2, h3⟩ := h
  refine ⟨A, c, hv, h1, h2, fun hn => ?_⟩
  obtain ⟨b, off, hA, hb, hl, hc⟩ := h3 hn
  exact ⟨b, off, hA, ⟨hb, hl⟩, hl, hc⟩
mutual
theorem TreeR.keep (hS : ∀ b, S b → b < w.heap.size → S' b) (hs : w.heap.size ≤ w'.heap.size) (hk : ∀ b, S b → b < w.heap.size → w'.heap[b]? = w.heap[b]?) : ∀ (t : VT) (b : Nat), TreeR w S t b → TreeR w' S' t b
  | .mk d i ps ts, b, h => by
    simp only [TreeR] at h ⊢
    obtain ⟨hb, hl, vp, vt, qs, c0, c1, c2, c3, c4, hp, ht, hr⟩ := h
    have hc : ∀ j, w'.cell? ⟨b, j, none⟩ = w.cell? ⟨b, j, none⟩ := fun j => World.cell?_of_block (hk b hb hl)
    exact ⟨hS b hb hl, by omega, vp, vt, qs, (hc 0).trans c0, (hc 1).trans c1, (hc 2).trans c2, (hc 3).trans c3, (hc 4).trans c4, hp.sized.keep (fun b h => hS b h.1 h.2) (fun b h _ => hk b h.1 h.2), ht.sized.keep (fun b h => hS b h.1 h.2) hs (fun b h _ => hk b h.1 h.2), TreesR.keep hS hs hk ts qs hr⟩
theorem TreesR.keep (hS : ∀ b, S b → b < w.heap.size → S' b) (hs : w.heap.size ≤ w'.heap.size) (hk : ∀ b, S b → b < w.heap.size → w'.heap[b]? = w.heap[b]?) : ∀ (ts : List VT) (qs : List Nat), TreesR w S ts qs → TreesR w' S' ts qs
  | [], qs, h => by simpa [TreesR] using h
  | t :: ts, qs, h => by
    simp only [TreesR] at h ⊢
    obtain ⟨q, rs, rfl, h1, h2⟩ := h
    exact ⟨q, rs, rfl, TreeR.keep hS hs hk t q h1, TreesR.keep hS hs hk ts rs h2⟩
end
theorem TreeR.below {t : VT} {b : Nat} (h : TreeR w S t b) (hb : Below w.heap.size w w') : TreeR w' S t b := TreeR.keep (fun _ h _ => h) hb.size (fun b _ hl => hb.block b hl) t b h
theorem TreesR.below {ts : List VT} {qs : List Nat} (h : TreesR w S ts qs) (hb : Below w.heap.size w w') : TreesR w' S ts qs := TreesR.keep (fun _ h _ => h) hb.size (fun b _ hl => hb.block b hl) ts qs h
theorem TreeR.weak {t : VT} {b : Nat} (h : TreeR w S t b) (hS : ∀ b, S b → S' b) : TreeR w S' t b := TreeR.keep (fun b h _ => hS b h) (Nat.le_refl _) (fun _ _ _ => rfl) t b h
theorem TreesR.len {ts : List VT} {qs : List Nat} (h : TreesR w S ts qs) : qs.length = ts.length := by
  induction ts generalizing qs with
  | nil => simp only [TreesR] at h; simp [h]
  | cons t ts ih =>
    simp only [TreesR] at h
    obtain ⟨q, rs, rfl, h1, h2⟩ := h
    simp [ih h2]
theorem TreesR.snoc {ts : List VT} {qs : List Nat} {t : VT} {q : Nat} (h : TreesR w S ts qs) (ht : TreeR w S t q) : TreesR w S (ts ++ [t]) (qs ++ [q]) := by
  induction ts generalizing qs with
  | nil =>
    simp only [TreesR] at h
    subst h
    exact ⟨q, [], rfl, ht, rfl⟩
  | cons x ts ih =>
    simp only [TreesR] at h
    obtain ⟨p, rs, rfl, h1, h2⟩ := h
    exact ⟨p, rs ++ [q], rfl, h1, ih h2⟩
theorem TreesR.at_ {ts : List VT} {qs : List Nat} {j : Nat} (h : TreesR w S ts qs) (hj : j < ts.length) : TreeR w S (ga ts j) (ga qs j) := by
  induction ts generalizing qs j with
  | nil => simp at hj
  | cons x ts ih =>
    simp only [TreesR] at h
    obtain ⟨p, rs, rfl, h1, h2⟩ := h
    cases j with
    | zero => simpa [ga] using h1
    | succ j =>
      have := ih h2 (j := j) (by simpa using hj)
      simpa [ga] using this
theorem TreeR.deg {t : VT} {b : Nat} (h : TreeR w S t b) : w.cell? ⟨b, 0, none⟩ = some (.int .i64 (t.deg : Nat)) ∧ w.cell? ⟨b, 4, none⟩ = some (.int .i64 (t.dep : Nat)) ∧ S b ∧ b < w.heap.size := by
  obtain ⟨d, i, ps, ts⟩ := t
  simp only [TreeR] at h
  obtain ⟨hb, hl, vp, vt, qs, c0, c1, c2, c3, c4, _⟩ := h
  exact ⟨c0, by rw [dep_mk]; exact c4, hb, hl⟩
end

/-- bytes from a place on -/
def from_ (s : ByteArray) (a : Nat) : List UInt8 := s.data.toList.drop a
theorem from_lt {s : ByteArray} {a : Nat} (h : a < s.size) : from_ s a = s[a] :: from_ s (a + 1) := by
  unfold from_
  rw [List.drop_eq_getElem_cons (by simpa using h)]
  rfl
theorem from_end {s : ByteArray} {a : Nat} (h : s.size ≤ a) : from_ s a = [] := by
  unfold from_
  exact List.drop_eq_nil_of_le (by simpa using h)
theorem from_len {s : ByteArray} {a : Nat} : (from_ s a).length = s.size - a := by
  unfold from_
  rw [List.length_drop]; rfl
theorem from_nil {s : ByteArray} {a : Nat} (h : from_ s a = []) : s.size ≤ a := by
  have := from_len (s := s) (a := a)
  rw [h] at this
  simp at this; omega
end Go.Proofs.Ytclkboemgneojaa
