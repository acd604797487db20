/- The statements' own helpers: marks in networks. -/
import Derived.Test.YtcjghlplkbpjcaaLh6
namespace Go.Proofs.Ytcjghlplkbpjcaa
open Go.RowKit

theorem MarkedT.ownI {t : TypeId} {B C B' : Nat} {w w' : World} {v : Value} {xs : List Int} (h : MarkedT t B C w w') (ht : t ≠ 3) (ho : OwnI w B' v xs) : OwnI w' B' v xs := by
  refine ⟨ho.1, ?_⟩
  rcases ho.2 with h2 | ⟨g, cap, cur, rfl, hB, hg, hr⟩
  · exact .inl h2
  · refine .inr ⟨g, cap, cur, rfl, hB, ?_, hr⟩
    rcases h.block g with ⟨cs, fr, h3, _⟩ | h3
    · rw [hg] at h3
      simp at h3
      exact absurd h3.2.1.symm ht
    · exact h3.trans hg
theorem OwnI.lt {w : World} {B : Nat} {v : Value} {xs : List Int} (h : OwnI w B v xs) : ∀ g, v.ownBlock = some g → B ≤ g ∧ g < w.heap.size := fun g hg => World.ownsRow.lt h g hg

/-- what marking a network gives -/
def RetMN (w : World) (B C : Nat) (e : Ending) (w' : World) : Prop := ∃ r : Int, e = .returned (.int .i64 r) ∧ 0 ≤ r ∧ r ≤ 17592186044416 ∧ Marked B C w w'

set_option maxRecDepth 100000 in
set_option maxHeartbeats 1000000 in
theorem markNetwork_any (B : Nat) (v : Value) (N : Net) (k : Int) (w0 w : World) (h : OwnN w0 B v N) (hs : ShortN N) (hb : Below w0.heap.size w0 w) (h0 : 0 ≤ k) (h1 : k ≤ 1048576) :
    Calls Try.prog 21 #[v, .int .i64 k] w (RetMN w B w0.heap.size) := by
  obtain ⟨ve, vi, vn, rfl, he, hi, hn⟩ := h
  obtain ⟨hs1, hs2, hs3⟩ := hs
  obtain ⟨A0, c0, rfl⟩ := he.shape
  have HLI := Lib.hid hi.lt
  have HLN := Lib.hid hn.lt
  obtain ⟨A1, c1, rfl⟩ := hi.shape
  obtain ⟨A2, c2, rfl⟩ := hn.shape
  have hb0 : Below w0.heap.size w0 (w.alloc (Obj.cells #[.slice A0 N.ends.length c0, .slice A1 N.ids.length c1, .slice A2 N.inputs.length c2] 44)) := hb.alloc hb.size _
  have HI := Lib.hid (hi.below hb0)
  have HN := Lib.hid (hn.below hb0)
  have hk0 := Blk.new w 44 #[.slice A0 N.ends.length c0, .slice A1 N.ids.length c1, .slice A2 N.inputs.length c2]
  have HK0 := Lib.hid hk0
  have HSZ := Lib.hid hb.size
  have CE := Lib.hid (markEndSS_any B _ N.ends k w0 _ he hs1 hb0 h0 h1)
  have HB1 : Hid (Marked B w0.heap.size w (w.alloc (Obj.cells #[.slice A0 N.ends.length c0, .slice A1 N.ids.length c1, .slice A2 N.inputs.length c2] 44))) := Marked.of_below ((Below.refl _ _).alloc (Nat.le_refl _) _)
  clear he hi hn hb hb0 hk0 hs1
  go_enter Try.func21, Try.ntmps21
  go_wp2_with fail
  refine CE.out.mono ?_
  rintro e w1 ⟨r1, rfl, hr1, hr2, hm1⟩
  have HI1 := Lib.hid (hm1.ownI (by decide) HI.out)
  have HN1 := Lib.hid (hm1.ownI (by decide) HN.out)
  have HM1 := Lib.hid (HB1.out.trans hm1.m)
  have hk1 : Blk w1 w.heap.size 44 #[.slice A0 N.ends.length c0, .slice A1 N.ids.length c1, .slice A2 N.inputs.length c2] := by
    rcases hm1.block w.heap.size with ⟨_, _, _, _, h4⟩ | h4
    · exact absurd h4 (by have := HSZ.out; omega)
    · exact h4.trans HK0.out
  have HK1 := Lib.hid hk1
  have hc := hk1.cell
  clear hm1 hk1 CE HI HN HB1
  go_wp2_with fail
  clear hc
  refine (markIntS_any B _ N.ids r1 w1 HI1.out (by omega) (by omega) (by omega)).mono ?_
  rintro e w2 ⟨rfl, -, hgr2, hok2⟩
  obtain ⟨ys, hyl, hn2⟩ := hok2 _ _ _ HN1.out
  have HN2 := Lib.hid hn2
  have HYL := Lib.hid hyl
  have hm2 : Marked B w0.heap.size w1 w2 := Marked.of_grown hgr2 HLI.out
  have HM2 := Lib.hid (HM1.out.trans hm2)
  have hk2 : Blk w2 w.heap.size 44 #[.slice A0 N.ends.length c0, .slice A1 N.ids.length c1, .slice A2 N.inputs.length c2] := by
    rcases hm2.block w.heap.size HK1.out.lt with ⟨_, h4⟩ | h4
    · exact absurd h4 (by have := HSZ.out; omega)
    · exact h4.trans HK1.out
  have hc := hk2.cell
  clear hgr2 hok2 hyl hn2 hm2 hk2 HM1 HI1 HN1
  go_wp2_with fail
  clear hc
  refine (markIntS_any B _ ys (r1 + N.ids.length) w2 HN2.out (by have := HYL.out; omega) (by omega) (by omega)).mono ?_
  rintro e w3 ⟨rfl, -, hgr3, -⟩
  have HM3 := Lib.hid (HM2.out.trans (Marked.of_grown hgr3 HLN.out))
  clear hgr3 HM2
  go_wp2_with fail
  go_ret
  exact ⟨_, rfl, by omega, by have := HYL.out; omega, HM3.out⟩
end Go.Proofs.Ytcjghlplkbpjcaa
