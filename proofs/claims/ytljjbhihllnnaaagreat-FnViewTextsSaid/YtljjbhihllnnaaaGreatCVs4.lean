/- The reference's parser of view texts. -/
import Derived.Test.YtljjbhihllnnaaaGreatCJn21
import Derived.Test.YtljjbhihllnnaaaGreatCJn4
namespace Go.Proofs.YtljjbhihllnnaaaGreat
open Go.RowKit

/-- what the parser gave: whether s is a view, and its tree -/
def PsV (B : Nat) (x : Option VT) (v : Value) (ok : Bool) (w' : World) : Prop := match x with
  | none => ok = false
  | some t => ok = true ∧ ∃ p, v = .pointer (some ⟨p, 0, none⟩) ∧ TreeR w' (fun b => B ≤ b) t p
def RetPs (w : World) (s : ByteArray) (e : Ending) (w' : World) : Prop := ∃ v ok, e = .returned (.tuple #[v, .bool ok]) ∧ Below w.heap.size w w' ∧ PsV w.heap.size (viewOf s) v ok w'
theorem RetPs.no {w w' : World} {s : ByteArray} {v : Value} (h : viewOf s = none) (hb : Below w.heap.size w w') : RetPs w s (.returned (.tuple #[v, .bool false])) w' := ⟨v, false, rfl, hb, by rw [h]; rfl⟩
theorem RetPs.yes {w w' : World} {s : ByteArray} {t : VT} {p : Nat} (h : viewOf s = some t) (hb : Below w.heap.size w w') (ht : TreeR w' (fun b => w.heap.size ≤ b) t p) : RetPs w s (.returned (.tuple #[.pointer (some ⟨p, 0, none⟩), .bool true])) w' :=
  ⟨_, true, rfl, hb, by rw [h]; exact ⟨rfl, p, rfl, ht⟩⟩
theorem viewOf_bad {s : ByteArray} (h : ∀ t, pv (s.size + 1) (from_ s 0) = some (t, []) → t.good = false) : viewOf s = none := by
  cases hv : viewOf s with
  | none => rfl
  | some t =>
    obtain ⟨h1, h2, h3, h4⟩ := viewOf_inv hv
    rw [h t h2] at h4; cases h4
theorem viewOf_ok {s : ByteArray} {t : VT} (hs : s.size ≤ 4000) (h : pv (s.size + 1) (from_ s 0) = some (t, [])) (hg : t.good = true) : viewOf s = some t := by
  unfold viewOf
  rw [if_pos hs, pg_some h hg]
theorem MovS.new {w w' : World} {s : ByteArray} {a : Nat} {ok : Bool} {o : Obj} (h : MovS (w.alloc o) w' w.heap.size s a ok) : Below w.heap.size w w' :=
  ((Below.refl w.heap.size w).alloc (Nat.le_refl _) o).grown h.2 (by simp) (fun k hk => by cases hk; exact Nat.le_refl _)

set_option maxRecDepth 100000 in
set_option maxHeartbeats 1000000 in
theorem spParse_any (s : ByteArray) (w : World) : Calls Tryz.prog 67 #[.string s] w (RetPs w s) := by
  by_cases hs : s.size ≤ 4000
  case neg =>
    have HN := Lib.hid (viewOf_long hs)
    have e1 : (4000 : Int) < (s.size : Int) := by omega
    clear hs
    go_enter Tryz.func67, Tryz.ntmps67
    go_wp2_with fail
    go_ret2
    exact RetPs.no HN.out ((Below.refl _ _).alloc (Nat.le_refl _) _)
  have e1 : ¬ (4000 : Int) < (s.size : Int) := by omega
  go_enter Tryz.func67, Tryz.ntmps67
  go_wp2_with fail
  refine (spView (s.size + 1) _ w.heap.size s 0 true (Blk.new w _ _) (by omega) hs (fun _ => by omega) (by omega)).mono ?_
  rintro e w1 ⟨p, a, o, dg, i, dp, vp, vt, rfl, ha, haa, hm, hp, hb, hdp, ht, hf⟩
  have HM := Lib.hid hm.new
  have HA := Lib.hid (by simp : w.heap.size ≤ (w.alloc (.cells #[.string s, .int .i64 (0 : Nat), .bool true] 164)).heap.size)
  have kr := hm.1.cell
  have kn := hb.cell
  clear hm hb
  cases o with
  | false =>
    have HN : Hid (viewOf s = none) := Lib.hid (viewOf_bad fun t h => by
      rcases hf rfl with h1 | h1
      · cases h1
      · rw [h1] at h; cases h)
    clear ht hf
    go_wp2_with fail
    go_ret2
    exact RetPs.no HN.out HM.out
  | true =>
    obtain ⟨-, hal, t, h1, h2, rfl, rfl⟩ := ht rfl
    have HW := Lib.hid (pv_wf h1)
    have HT := Lib.hid (h2.weak (S' := fun b => w.heap.size ≤ b) (fun b hb => by have := HA.out; omega))
    have HP := Lib.hid h1
    clear ht hf h1 h2
    by_cases hae : a = s.size
    case neg =>
      have e2 : ((a : Int) == (s.size : Int)) = false := by simp; omega
      have HN : Hid (viewOf s = none) := Lib.hid (viewOf_bad fun u h => by
        have := HP.out
        rw [h] at this
        simp only [Option.some.injEq, Prod.mk.injEq] at this
        exact absurd (from_nil this.2.symm) (by omega))
      clear hae
      go_wp2_with fail
      go_ret2
      exact RetPs.no HN.out HM.out
    subst hae
    have HP' : Hid (pv (s.size + 1) (from_ s 0) = some (t, [])) := Lib.hid (by rw [HP.out, from_end (Nat.le_refl _)])
    have e2 : ((s.size : Int) == (s.size : Int)) = true := by simp
    by_cases h80 : t.dep ≤ 80
    case neg =>
      have e3 : ¬ (t.dep : Int) ≤ 80 := by omega
      have e4 : decide (t.dep ≤ 80) = false := by simp; omega
      have HN : Hid (viewOf s = none) := Lib.hid (viewOf_bad fun u h => by
        rw [HP'.out] at h
        cases h
        simp [VT.good, h80])
      clear h80
      go_wp2_with fail
      go_ret2
      exact RetPs.no HN.out HM.out
    have e3 : (t.dep : Int) ≤ 80 := by omega
    have e4 : decide (t.dep ≤ 80) = true := by simp; omega
    have HG := Lib.hid (good_fits HW.out)
    have HC := Lib.hid (spFits (t.dep + 1) t w1 _ p t.dep (by omega) HT.out (by omega))
    cases hff : t.fits t.dep with
    | false =>
      have HN : Hid (viewOf s = none) := Lib.hid (viewOf_bad fun u h => by
        rw [HP'.out] at h
        cases h
        rw [← HG.out, hff, Bool.and_false])
      rw [hff] at HC
      clear hff h80
      go_wp2_with (go_at_call 126; refine HC.out.mono ?_; rintro e w2 ⟨rfl, rfl⟩)
      go_ret2
      exact RetPs.no HN.out HM.out
    | true =>
      have HY : Hid (viewOf s = some t) := Lib.hid (viewOf_ok hs HP'.out (by rw [← HG.out, hff, e4]; rfl))
      rw [hff] at HC
      clear hff h80
      go_wp2_with (go_at_call 126; refine HC.out.mono ?_; rintro e w2 ⟨rfl, rfl⟩)
      go_ret2
      exact RetPs.yes HY.out HM.out HT.out
end Go.Proofs.YtljjbhihllnnaaaGreat
