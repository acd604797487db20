/- View texts: the text of a beginning is no longer than what was read; the view of a text. No program in sight. -/
import Derived.Test.YtclkboemgneojaaVt3
import Derived.Test.YtclkboemgneojaaTab
namespace Go.Proofs.Ytclkboemgneojaa

theorem txt_mk (k d i : Nat) (ps : List Nat) (ts : List VT) : (VT.mk d i ps ts).txt k = dch d :: 46 :: dch i :: (if k = 0 ∨ ts.isEmpty = true then [] else txts (k - 1) 40 ps ts ++ [41]) := by simp [VT.txt]
theorem txts_len {p : List UInt8 → Option (VT × List UInt8)} {q : Nat} (hp : ∀ l t r, p l = some (t, r) → (t.txt q).length + r.length ≤ l.length) {n : Nat} {s s' : UInt8} {l r : List UInt8} {ps : List Nat} {ts : List VT} (h : pks p n s l = some (ps, ts, r)) :
    (txts q s' ps ts).length + r.length ≤ l.length := by
  induction n generalizing s s' l r ps ts with
  | zero => simp [pks] at h; obtain ⟨rfl, rfl, rfl⟩ := h; simp [txts]
  | succ n ih =>
    unfold pks at h
    split at h; · cases h
    rename_i l1 h1
    split at h; · cases h
    rename_i j l2 h2
    split at h; · cases h
    rename_i l3 h3
    split at h; · cases h
    rename_i t l4 h4
    split at h
    · split at h; · cases h
      rename_i ps' ts' l5 h5
      simp at h
      obtain ⟨rfl, rfl, rfl⟩ := h
      have i1 := ih (s' := 44) h5
      have := sgn_len h1
      have := dgt_len h2
      have := sgn_len h3
      have := hp _ _ _ h4
      simp only [txts, List.length_cons, List.length_append]; omega
    · cases h
theorem txt_len {f : Nat} {l r : List UInt8} {t : VT} (h : pv f l = some (t, r)) : ∀ k, (t.txt k).length + r.length ≤ l.length := by
  induction f generalizing l r t with
  | zero => cases h
  | succ f ih =>
    intro k
    unfold pv at h
    split at h; · cases h
    rename_i d l1 h1
    split at h; · cases h
    rename_i l2 h2
    split at h; · cases h
    rename_i i l3 h3
    have := dgt_len h1
    have := sgn_len h2
    have := dgt_len h3
    split at h
    · simp at h; obtain ⟨rfl, rfl⟩ := h
      simp [txt_mk]; omega
    · split at h; · cases h
      rename_i ps ts l4 h4
      split at h; · cases h
      rename_i l5 h5
      simp at h; obtain ⟨rfl, rfl⟩ := h
      have := sgn_len h5
      have i1 := txts_len (q := k - 1) (fun l t r h => ih h (k - 1)) (s' := 40) h4
      rw [txt_mk]
      split
      · simp; omega
      · simp only [List.length_cons, List.length_append, List.length_nil]; omega
/-- bytes as a string -/
def strB (l : List UInt8) : ByteArray := ⟨l.toArray⟩
theorem strB_size (l : List UInt8) : (strB l).size = l.length := by simp [strB, ByteArray.size]
theorem strB_from (l : List UInt8) : from_ (strB l) 0 = l := by simp [from_, strB]
theorem strB_app (l m : List UInt8) : strB l ++ strB m = strB (l ++ m) := by
  apply bytes_ext
  simp [strB]
theorem viewOf_inv {s : ByteArray} {t : VT} (h : viewOf s = some t) : s.size ≤ 4000 ∧ pv (s.size + 1) (from_ s 0) = some (t, []) ∧ t.wf = true ∧ t.good = true := by
  unfold viewOf at h
  split at h
  · rename_i hs
    split at h
    · rename_i u hu
      cases h
      obtain ⟨h1, h2⟩ := pg_inv hu
      exact ⟨hs, h1, pv_wf h1, h2⟩
    · cases h
  · cases h
theorem viewOf_txt {s : ByteArray} {t : VT} (h : viewOf s = some t) (k : Nat) : (t.txt k).length ≤ 4000 ∧ viewOf (strB (t.txt k)) = some (t.cut k) := by
  obtain ⟨h1, h2, h3, h4⟩ := viewOf_inv h
  have h5 := txt_len h2 k
  rw [from_len] at h5
  simp at h5
  have h6 : (t.txt k).length ≤ 4000 := by omega
  refine ⟨h6, ?_⟩
  unfold viewOf
  rw [if_pos (by rw [strB_size]; exact h6), strB_from, pg_txt h3 h4 (by rw [strB_size]; omega)]
end Go.Proofs.Ytclkboemgneojaa
