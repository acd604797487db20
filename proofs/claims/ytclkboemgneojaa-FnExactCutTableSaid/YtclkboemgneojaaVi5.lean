/- The program's readView. -/
import Derived.Test.YtclkboemgneojaaVi4
namespace Go.Proofs.Ytclkboemgneojaa
open Go.RowKit

/-- a tree of a view's text, or none -/
def RetTr (w : World) (x : Option VT) (e : Ending) (w' : World) : Prop := Below w.heap.size w w' ∧ (match x with
  | none => e = .returned (.pointer none)
  | some t => ∃ p, e = .returned (.pointer (some ⟨p, 0, none⟩)) ∧ TreeR w' (fun b => w.heap.size ≤ b) t p)
theorem RetTr.nil {w w' : World} {x : Option VT} (h : x = none) (hb : Below w.heap.size w w') : RetTr w x (.returned (.pointer none)) w' := by subst h; exact ⟨hb, rfl⟩
theorem RetTr.ptr {w w' : World} {x : Option VT} {t : VT} {p : Nat} (h : x = some t) (hb : Below w.heap.size w w') (ht : TreeR w' (fun b => w.heap.size ≤ b) t p) : RetTr w x (.returned (.pointer (some ⟨p, 0, none⟩))) w' := by subst h; exact ⟨hb, p, rfl, ht⟩
theorem from_nil_of {s : ByteArray} {a : Nat} (h : ¬ a < s.size) : from_ s a = [] := from_end (by omega)
theorem viewOf_some {s : ByteArray} {t : VT} {a : Nat} (hs : s.size ≤ 4000) (h : pg (s.size + 1) (from_ s 0) = some (t, from_ s a)) (ha : ¬ a < s.size) : viewOf s = some t := by
  unfold viewOf; rw [if_pos hs, h, from_nil_of ha]
theorem viewOf_rest {s : ByteArray} {t : VT} {a : Nat} (h : pg (s.size + 1) (from_ s 0) = some (t, from_ s a)) (ha : a < s.size) : viewOf s = none := by
  unfold viewOf; rw [h, from_lt ha]; split <;> rfl
theorem viewOf_none {s : ByteArray} (h : pg (s.size + 1) (from_ s 0) = none) : viewOf s = none := by
  unfold viewOf; rw [h]; split <;> rfl
theorem viewOf_long {s : ByteArray} (h : ¬ s.size ≤ 4000) : viewOf s = none := by
  unfold viewOf; rw [if_neg h]
theorem Moved.new {t : TypeId} {w w' : World} {s : ByteArray} {a : Nat} {o : Obj} (h : Moved t (w.alloc o) w' w.heap.size s a) : Below w.heap.size w w' :=
  ((Below.refl w.heap.size w).alloc (Nat.le_refl _) o).grown h.2 (by simp) (fun k hk => by cases hk; exact Nat.le_refl _)

set_option maxRecDepth 100000 in
set_option maxHeartbeats 1000000 in
theorem readView_any (s : ByteArray) (w : World) : Calls Try.prog 55 #[.string s] w (RetTr w (viewOf s)) := by
  by_cases hs : s.size ≤ 4000
  case neg =>
    have HN := Lib.hid (viewOf_long hs)
    have e1 : (4000 : Int) < (s.size : Int) := by omega
    clear hs
    go_enter Try.func55, Try.ntmps55
    go_wp2_with fail
    go_ret
    exact RetTr.nil HN.out (Below.refl _ _)
  have e1 : ¬ (4000 : Int) < (s.size : Int) := by omega
  go_enter Try.func55, Try.ntmps55
  go_wp2_with fail
  refine (rdView (s.size + 1) _ w.heap.size s 0 (Blk.new w _ _) (by omega) hs (by omega)).mono ?_
  rintro e w1 ⟨a, ha, hm, hres⟩
  have HM := Lib.hid hm.new
  have HA := Lib.hid (by simp : w.heap.size ≤ (w.alloc (.cells #[.string s, .int .i64 (0 : Nat)] 169)).heap.size)
  have kr := hm.1.cell
  clear hm
  cases hp : pg (s.size + 1) (from_ s 0) with
  | none =>
    rw [hp] at hres
    have hres : e = .returned (.pointer none) := hres
    subst hres
    have HN := Lib.hid (viewOf_none hp)
    clear hp
    by_cases hl : a < s.size
    · go_wp2_with fail
      go_ret
      exact RetTr.nil HN.out HM.out
    · go_wp2_with fail
      go_ret
      exact RetTr.nil HN.out HM.out
  | some x =>
    obtain ⟨t, r⟩ := x
    rw [hp] at hres
    obtain ⟨rfl, p, rfl, ht⟩ := hres
    by_cases hl : a < s.size
    · have HN := Lib.hid (viewOf_rest hp hl)
      clear hp ht
      go_wp2_with fail
      go_ret
      exact RetTr.nil HN.out HM.out
    · have HN := Lib.hid (viewOf_some hs hp hl)
      have HT := Lib.hid (ht.weak (S' := fun b => w.heap.size ≤ b) (fun b hb => by have := HA.out; omega))
      clear hp ht
      go_wp2_with fail
      go_ret
      exact RetTr.ptr HN.out HM.out HT.out
end Go.Proofs.Ytclkboemgneojaa
