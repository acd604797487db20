/- The statements' own helpers: marks in slices of ints and of pairs, in networks; marks that still stand. -/
import Derived.Test.YtcjghlplkbpjcaaLh5
import Derived.Test.YtcjghlplkbpjcaaSo1
namespace Go.Proofs.Ytcjghlplkbpjcaa
open Go.RowKit

/-- the marks k, k + 1, .. -/
def mks (k : Int) (n : Nat) : List Int := (List.range n).map fun (i : Nat) => k + (i : Int)
theorem mks_length (k : Int) (n : Nat) : (mks k n).length = n := by simp [mks]
theorem mks_get {k : Int} {n j : Nat} (h : j < n) : gi (mks k n) j = k + (j : Int) := by simp [mks, gi, h]
theorem mks_step (k : Int) (xs : List Int) {j : Nat} (h : j < xs.length) : (mks k j ++ xs.drop j).set j (k + (j : Int)) = mks k (j + 1) ++ xs.drop (j + 1) := by
  have e : (mks k j ++ xs.drop j).set j (k + (j : Int)) = mks k j ++ (xs.drop j).set 0 (k + (j : Int)) := by
    rw [List.set_append_right _ _ (by rw [mks_length]; exact Nat.le_refl _)]
    simp [mks_length]
  rw [e]
  have e2 : (xs.drop j).set 0 (k + (j : Int)) = (k + (j : Int)) :: xs.drop (j + 1) := by
    rw [List.drop_eq_getElem_cons h]; rfl
  rw [e2]
  simp [mks, List.range_succ]

/-- owned slices of ints stay such -/
def OwnKept (w w' : World) : Prop := ∀ B u ys, OwnI w B u ys → ∃ ys', ys'.length = ys.length ∧ OwnI w' B u ys'
theorem OwnKept.refl (w : World) : OwnKept w w := fun _ _ ys h => ⟨ys, rfl, h⟩
theorem OwnKept.put {w w' : World} (h : OwnKept w w') (g j : Nat) (q : Int) : OwnKept w (w'.setCell ⟨g, j, none⟩ (.int .i64 q)) := fun B u ys ho => by
  obtain ⟨zs, hl, hz⟩ := h B u ys ho
  rcases Nat.eq_zero_or_pos zs.length with h0 | hp
  · refine ⟨zs, hl, hz.1, ?_⟩
    rcases hz.2 with h2 | ⟨g', cap, cur, rfl, hB, hg, hr⟩
    · exact .inl h2
    · by_cases e : g' = g
      · subst e
        refine .inr ⟨g', cap, cur.setIfInBounds j (.int .i64 q), rfl, hB, Blk.put hg j _, hr.1, hr.2.1, by simpa using hr.2.2.1, ?_⟩
        have hl0 : zs = [] := List.length_eq_zero_iff.1 h0
        subst hl0
        simp [ic]
      · exact .inr ⟨g', cap, cur, rfl, hB, (Below.heap_setCell w' _ _ g' e).trans hg, hr⟩
  · obtain ⟨g', cap, rfl, hB, hg, h1, h2⟩ := hz.addr hp
    by_cases e : g' = g
    · subst e
      exact ⟨zs.set j q, by simpa using hl, by have := hz.put (j := j) rfl q; simpa [OwnI] using this⟩
    · refine ⟨zs, hl, hz.1, ?_⟩
      rcases hz.2 with ⟨h3, h4⟩ | ⟨g2, cap2, cur, h3, hB2, hg2, hr⟩
      · omega
      · cases h3
        exact .inr ⟨_, _, cur, rfl, hB2, (Below.heap_setCell w' _ _ _ e).trans hg2, hr⟩

/-- what markIntS gives -/
def RetMk (w : World) (B : Nat) (v : Value) (k : Int) (n : Nat) (e : Ending) (w' : World) : Prop :=
  e = .returned (.int .i64 (k + n)) ∧ OwnI w' B v (mks k n) ∧ w.grownBy w' v.ownBlock ∧ OwnKept w w'

set_option maxRecDepth 100000 in
set_option maxHeartbeats 1000000 in
theorem markIntS_any (B : Nat) (v : Value) (xs : List Int) (k : Int) (w : World) (h : OwnI w B v xs) (hn : xs.length ≤ 4194304) (h0 : 0 ≤ k) (h1 : k ≤ 1125899906842624) :
    Calls Try.prog 22 #[v, .int .i64 k] w (RetMk w B v k xs.length) := by
  by_cases hp : 0 < xs.length
  · obtain ⟨g, cap, rfl, hB, hg, hc1, hc2⟩ := h.addr hp
    have HO := Lib.hid h
    clear h
    obtain ⟨n, hnn⟩ : ∃ n, n = xs.length := ⟨_, rfl⟩
    rw [← hnn] at hp hn hc1 HO ⊢
    have HN := Lib.hid hnn
    clear hnn
    go_enter Try.func22, Try.ntmps22
    go_wp2
    go_loopw [1, 5] (fun vk vi wr => ∃ j : Nat, j ≤ n ∧ vi = .int .i64 j ∧ vk = .int .i64 (k + j) ∧ OwnI wr B (.slice (some ⟨g, 0, none⟩) n cap) (mks k j ++ xs.drop j) ∧ w.grownBy wr (some g) ∧ OwnKept w wr)
      (fun _ vi _ => n - (intOf vi).toNat)
    case atStart => exact ⟨0, Nat.zero_le _, rfl, by simp, by simpa [mks] using HO.out, World.grownBy.refl _ _, OwnKept.refl _⟩
    case round =>
      obtain ⟨j, hj, rfl, rfl, hown, hgr, hok⟩ := hrel
      have hlen : n = (mks k j ++ xs.drop j).length := by have := HN.out; simp [mks_length]; omega
      have HLN := Lib.hid hlen
      have HOW := Lib.hid hown
      have HGR := Lib.hid hgr
      have HOK := Lib.hid hok
      clear hlen hown hgr hok
      by_cases hlt : j < n
      · obtain ⟨c1, f1⟩ := HOW.out.at_ HLN.out hlt
        have HO1 : Hid (OwnI (wr.setCell ⟨g, j, none⟩ (.int .i64 (k + j))) B (.slice (some ⟨g, 0, none⟩) n cap) (mks k (j + 1) ++ xs.drop (j + 1))) := by
          have := HOW.out.put HLN.out (j := j) (k + j)
          rwa [mks_step k xs (by have := HN.out; omega)] at this
        go_wp2
        go_roundw
        case rel => exact ⟨j + 1, by omega, by go_num, by go_num, HO1.out, grown_put HGR.out _ _, HOK.out.put _ _ _⟩
        case measure => simp [intOf]; omega
      · obtain rfl : j = n := by omega
        go_wp2
        go_ret
        refine ⟨rfl, ?_, HGR.out, HOK.out⟩
        have := HOW.out
        rwa [List.drop_eq_nil_of_le (by have := HN.out; omega), List.append_nil] at this
  · obtain ⟨A, c, rfl⟩ := h.shape
    obtain rfl : xs = [] := List.length_eq_zero_iff.1 (by omega)
    have HO := Lib.hid h
    clear h
    go_enter Try.func22, Try.ntmps22
    simp only [List.length_nil] at *
    go_wp2
    go_loopw [1, 5] (fun vk vi wr => vi = .int .i64 0 ∧ vk = .int .i64 k ∧ wr = w) (fun _ _ _ => 0)
    case atStart => exact ⟨rfl, rfl, rfl⟩
    case round =>
      obtain ⟨rfl, rfl, rfl⟩ := hrel
      go_wp2
      go_ret
      exact ⟨by simp, by simpa [mks] using HO.out, World.grownBy.refl _ _, OwnKept.refl _⟩

set_option maxRecDepth 100000 in
set_option maxHeartbeats 1000000 in
theorem heldIntS_any (B : Nat) (v : Value) (k : Int) (n : Nat) (w : World) (h : OwnI w B v (mks k n)) (hn : n ≤ 4194304) (h0 : 0 ≤ k) (h1 : k ≤ 1125899906842624) :
    Calls Try.prog 23 #[v, .int .i64 k] w (RetQ w (.int .i64 (k + n))) := by
  have hr := h.ints
  obtain ⟨A, c, rfl, hnc, hm, hx⟩ := hr
  rw [mks_length] at *
  have HX := Lib.hid hx
  clear h hx hnc hm
  go_enter Try.func23, Try.ntmps23
  go_wp2
  go_loop [1, 5] (fun vk vi => ∃ j : Nat, j ≤ n ∧ vi = .int .i64 j ∧ vk = .int .i64 (k + j)) (fun _ vi => n - (intOf vi).toNat)
  case atStart => exact ⟨0, Nat.zero_le _, rfl, by simp⟩
  case round =>
    obtain ⟨j, hj, rfl, rfl⟩ := hrel
    by_cases hlt : j < n
    · obtain ⟨b, off, rfl, -, hc⟩ := HX.out (by omega)
      have h2 := hc j hlt
      rw [mks_get hlt] at h2
      have e1 : ((k + (j : Int)) != (k + (j : Int))) = false := by simp
      clear hc
      go_wp2
      go_round
      case rel => exact ⟨j + 1, by omega, by go_num, by go_num⟩
      case measure => simp [intOf]; omega
    · obtain rfl : j = n := by omega
      go_wp2
      go_ret
      exact ⟨rfl, rfl⟩

/-- a block of n pairs of ints -/
def PairShape (w : World) (g : Nat) (t : TypeId) (n : Nat) : Prop := ∃ F : Nat → Int, w.rowIs g t (n * 2) (fun i => .int .i64 (F i))
theorem PairRow.shape {w : World} {g : Nat} {t : TypeId} {es : List (Int × Int)} (h : PairRow w g t es) : PairShape w g t es.length :=
  ⟨fun i => if i % 2 = 0 then (gp es (i / 2)).1 else (gp es (i / 2)).2, World.rowIs.congr h fun i _ => by by_cases e : i % 2 = 0 <;> simp [e]⟩
theorem PairShape.set {w : World} {g : Nat} {t : TypeId} {n : Nat} (h : PairShape w g t n) (j : Nat) (q : Int) : PairShape (w.setCell ⟨g, j, none⟩ (.int .i64 q)) g t n := by
  obtain ⟨F, hF⟩ := h
  refine ⟨fun i => if i = j then q else F i, (hF.set j (.int .i64 q)).congr fun i _ => ?_⟩
  by_cases e : i = j <;> simp [e]
theorem PairShape.of_block {w w' : World} {g : Nat} {t : TypeId} {n : Nat} (h : PairShape w g t n) (hb : w'.heap[g]? = w.heap[g]?) : PairShape w' g t n := by
  obtain ⟨F, hF⟩ := h
  exact ⟨F, hF.of_block hb⟩

def RetPS (w : World) (g : Nat) (t : TypeId) (n : Nat) (k : Int) (e : Ending) (w' : World) : Prop :=
  e = .returned (.int .i64 (k + n * 2)) ∧ PairShape w' g t n ∧ w.grownBy w' (some g) ∧ w'.heap.size = w.heap.size

theorem size_set (w : World) (p : Addr) (u : Value) : (w.setCell p u).heap.size = w.heap.size := by simp [World.setCell]

set_option maxRecDepth 100000 in
set_option maxHeartbeats 1000000 in
theorem markEndS_any (g : Nat) (n c : Nat) (k : Int) (w : World) (h : PairShape w g 60 n) (hn : n ≤ 2097152) (h0 : 0 ≤ k) (h1 : k ≤ 1125899906842624) :
    Calls Try.prog 133 #[.slice (some ⟨g, 0, none⟩) n c, .int .i64 k] w (RetPS w g 60 n k) := by
  have HO := Lib.hid h
  clear h
  go_enter Try.func133, Try.ntmps133
  go_wp2
  go_loopw [1, 5] (fun vk vi wr => ∃ j : Nat, j ≤ n ∧ vi = .int .i64 j ∧ vk = .int .i64 (k + j * 2) ∧ PairShape wr g 60 n ∧ w.grownBy wr (some g) ∧ wr.heap.size = w.heap.size)
    (fun _ vi _ => n - (intOf vi).toNat)
  case atStart => exact ⟨0, Nat.zero_le _, rfl, by simp, HO.out, World.grownBy.refl _ _, rfl⟩
  case round =>
    obtain ⟨j, hj, rfl, rfl, hown, hgr, hsz⟩ := hrel
    have HOW := Lib.hid hown
    have HGR := Lib.hid hgr
    have HSZ := Lib.hid hsz
    clear hgr hsz
    by_cases hlt : j < n
    · obtain ⟨F, hF⟩ := hown
      have c1 := hF.cell (i := j * 2) (by omega)
      have f1 := hF.frozen (j * 2)
      have c2 := hF.cell (i := j * 2 + 1) (by omega)
      have f2 := hF.frozen (j * 2 + 1)
      clear hF
      go_wp2
      go_roundw
      case rel => exact ⟨j + 1, by omega, by go_num, by go_num, (HOW.out.set _ _).set _ _, grown_put (grown_put HGR.out _ _) _ _, by rw [size_set, size_set]; exact HSZ.out⟩
      case measure => simp [intOf]; omega
    · obtain rfl : j = n := by omega
      clear hown
      go_wp2
      go_ret
      exact ⟨rfl, HOW.out, HGR.out, HSZ.out⟩

/-- only blocks of the type t between B and C have turned -/
structure MarkedT (t : TypeId) (B C : Nat) (w w' : World) : Prop where
  os : w'.os = w.os
  tape : w'.tape = w.tape
  output : w'.output = w.output
  size : w'.heap.size = w.heap.size
  block : ∀ b, (∃ cs fr, w.heap[b]? = some (.cells cs t fr) ∧ B ≤ b ∧ b < C) ∨ w'.heap[b]? = w.heap[b]?
theorem MarkedT.refl (t : TypeId) (B C : Nat) (w : World) : MarkedT t B C w w := ⟨rfl, rfl, rfl, rfl, fun _ => .inr rfl⟩
theorem MarkedT.trans {t : TypeId} {B C : Nat} {a b c : World} (h : MarkedT t B C a b) (k : MarkedT t B C b c) : MarkedT t B C a c := by
  refine ⟨k.os.trans h.os, k.tape.trans h.tape, k.output.trans h.output, k.size.trans h.size, fun x => ?_⟩
  rcases h.block x with h1 | h1
  · exact .inl h1
  · rcases k.block x with ⟨cs, fr, h2, h3⟩ | h2
    · exact .inl ⟨cs, fr, h1 ▸ h2, h3⟩
    · exact .inr (h2.trans h1)
/-- only blocks between B and C have turned, and new ones were made -/
structure Marked (B C : Nat) (w w' : World) : Prop where
  os : w'.os = w.os
  tape : w'.tape = w.tape
  output : w'.output = w.output
  size : w.heap.size ≤ w'.heap.size
  block : ∀ b, b < w.heap.size → (B ≤ b ∧ b < C) ∨ w'.heap[b]? = w.heap[b]?
theorem Marked.refl (B C : Nat) (w : World) : Marked B C w w := ⟨rfl, rfl, rfl, Nat.le_refl _, fun _ _ => .inr rfl⟩
theorem Marked.trans {B C : Nat} {a b c : World} (h : Marked B C a b) (k : Marked B C b c) : Marked B C a c := by
  refine ⟨k.os.trans h.os, k.tape.trans h.tape, k.output.trans h.output, Nat.le_trans h.size k.size, fun x hx => ?_⟩
  rcases h.block x hx with h1 | h1
  · exact .inl h1
  · rcases k.block x (Nat.lt_of_lt_of_le hx h.size) with h2 | h2
    · exact .inl h2
    · exact .inr (h2.trans h1)
theorem MarkedT.m {t : TypeId} {B C : Nat} {w w' : World} (h : MarkedT t B C w w') : Marked B C w w' :=
  ⟨h.os, h.tape, h.output, Nat.le_of_eq h.size.symm, fun b _ => (h.block b).elim (fun ⟨_, _, _, h1, h2⟩ => .inl ⟨h1, h2⟩) .inr⟩
theorem Marked.of_grown {B C : Nat} {w w' : World} {row : Option Nat} (h : w.grownBy w' row) (hr : ∀ g, row = some g → B ≤ g ∧ g < C) : Marked B C w w' :=
  ⟨h.os, h.tape, h.output, h.size, fun b hb => by
    by_cases e : some b = row
    · exact .inl (hr b e.symm)
    · exact .inr (h.block b hb e)⟩
theorem Marked.of_below {B C : Nat} {w w' : World} (h : Below w.heap.size w w') : Marked B C w w' := ⟨h.os, h.tape, h.output, h.size, fun b hb => .inr (h.block b hb)⟩
theorem Marked.wider {B C B' C' : Nat} {w w' : World} (h : Marked B C w w') (h1 : B' ≤ B) (h2 : C ≤ C') : Marked B' C' w w' := ⟨h.os, h.tape, h.output, h.size, fun b hb => (h.block b hb).elim (fun k => .inl ⟨by omega, by omega⟩) .inr⟩
theorem Marked.below {B C D : Nat} {w w' : World} (h : Marked B C w w') (hd : D ≤ B) (hs : D ≤ w.heap.size) : Below D w w' :=
  ⟨h.os, h.tape, h.output, h.size, fun b hb => (h.block b (by omega)).elim (fun k => by omega) id⟩

theorem rowIs_type {w : World} {g : Nat} {t : TypeId} {n : Nat} {f : Nat → Value} (h : w.rowIs g t n f) : ∃ cs, w.heap[g]? = some (.cells cs t (0, 0)) := by
  obtain ⟨c, hc, _⟩ := h
  exact ⟨c, hc⟩

/-- what markEndSS gives -/
def RetMS (w : World) (B C : Nat) (k : Int) (e : Ending) (w' : World) : Prop :=
  ∃ r : Int, e = .returned (.int .i64 r) ∧ k ≤ r ∧ r ≤ k + 8796093022208 ∧ MarkedT 60 B C w w'

set_option maxRecDepth 100000 in
set_option maxHeartbeats 1000000 in
theorem markEndSS_any (B : Nat) (v : Value) (ess : List (List (Int × Int))) (k : Int) (w0 w : World) (h : OwnEE w0 B v ess) (hs : Short ess) (hb : Below w0.heap.size w0 w) (h0 : 0 ≤ k) (h1 : k ≤ 1048576) :
    Calls Try.prog 70 #[v, .int .i64 k] w (RetMS w B w0.heap.size k) := by
  obtain ⟨g, gs, rfl, hB, hrow, hp⟩ := h
  obtain ⟨hs1, hs2⟩ := hs
  have HROW := Lib.hid (hrow.of_block (hb.block _ hrow.lt))
  have HP : Hid (∀ i, i < ess.length → B ≤ gs i ∧ gs i < w0.heap.size ∧ PairShape w (gs i) 60 (gl ess i).length) := fun i hi => ⟨(hp i hi).1, (hp i hi).2.lt, (hp i hi).2.shape.of_block (hb.block _ (hp i hi).2.lt)⟩
  have HS2 := Lib.hid hs2
  have HBE := Lib.hid hb
  clear hrow hp hb hs2
  obtain ⟨n, hnn⟩ : ∃ n, n = ess.length := ⟨_, rfl⟩
  rw [← hnn] at hs1 HROW HP HS2 ⊢
  clear hnn
  go_enter Try.func70, Try.ntmps70
  go_wp2
  go_loopw [1, 5] (fun vk vi wr => ∃ (j : Nat) (r : Int), j ≤ n ∧ vi = .int .i64 j ∧ vk = .int .i64 r ∧ k ≤ r ∧ r ≤ k + j * 4194304 ∧ wr.rowIs g 58 n (fun i => .slice (some ⟨gs i, 0, none⟩) (gl ess i).length (gl ess i).length) ∧
      (∀ i, i < n → PairShape wr (gs i) 60 (gl ess i).length) ∧ MarkedT 60 B w0.heap.size w wr)
    (fun _ vi _ => n - (intOf vi).toNat)
  case atStart => exact ⟨0, k, Nat.zero_le _, rfl, rfl, by omega, by omega, HROW.out, fun i hi => (HP.out i hi).2.2, MarkedT.refl _ _ _ _⟩
  case round =>
    obtain ⟨j, r, hj, rfl, rfl, hr1, hr2, hrow, hps, hmk⟩ := hrel
    have HRW := Lib.hid hrow
    have HPS := Lib.hid hps
    have HMK := Lib.hid hmk
    clear hrow hps hmk
    by_cases hlt : j < n
    · have c1 := HRW.out.cell hlt
      have hl2 := HS2.out j hlt
      have CM := Lib.hid (markEndS_any (gs j) (gl ess j).length (gl ess j).length r wr (HPS.out j hlt) hl2 (by omega) (by omega))
      go_wp2_with fail
      refine CM.out.mono ?_
      rintro e w1 ⟨rfl, hps1, hgr1, hsz1⟩
      have hm1 : MarkedT 60 B w0.heap.size wr w1 := by
        refine ⟨hgr1.os, hgr1.tape, hgr1.output, hsz1, fun b => ?_⟩
        by_cases e : b = gs j
        · subst e
          obtain ⟨F, hF⟩ := HPS.out j hlt
          obtain ⟨cs, hcs⟩ := rowIs_type hF
          exact .inl ⟨cs, _, hcs, (HP.out j hlt).1, (HP.out j hlt).2.1⟩
        · by_cases hbs : b < wr.heap.size
          · exact .inr (hgr1.block b hbs (fun h => e (by simpa using h)))
          · exact .inr (by rw [Array.getElem?_eq_none (by omega), Array.getElem?_eq_none (by omega)])
      have HM := Lib.hid (HMK.out.trans hm1)
      have hg : w1.heap[g]? = wr.heap[g]? := by
        rcases hm1.block g with ⟨cs, fr, h3, _⟩ | h3
        · exfalso
          obtain ⟨cs', h4⟩ := rowIs_type HRW.out
          rw [h4] at h3
          simp at h3
        · exact h3
      have HRW' := Lib.hid (HRW.out.of_block hg)
      have HPS' : Hid (∀ i, i < n → PairShape w1 (gs i) 60 (gl ess i).length) := fun i hi => by
        by_cases e : gs i = gs j
        · rw [e]
          have a1 := HPS.out i hi
          rw [e] at a1
          obtain ⟨F, hF⟩ := a1
          obtain ⟨F', hF'⟩ := HPS.out j hlt
          obtain ⟨F1, hF1⟩ := hps1
          obtain ⟨c1, q1, s1, _⟩ := hF
          obtain ⟨c2, q2, s2, _⟩ := hF'
          rw [q1] at q2
          have : (gl ess i).length = (gl ess j).length := by
            cases q2; omega
          rw [this]; exact ⟨F1, hF1⟩
        · exact (HPS.out i hi).of_block (hgr1.block _ (by obtain ⟨F, hF⟩ := HPS.out i hi; exact hF.lt) (fun h => e (by simpa using h)))
      clear hps1 hgr1 hsz1 hm1 hg HRW HPS HMK c1 CM
      go_wp2_with fail
      go_roundw
      case rel => exact ⟨j + 1, r + (gl ess j).length * 2, by omega, by go_num, rfl, by omega, by omega, HRW'.out, HPS'.out, HM.out⟩
      case measure => simp [intOf]; omega
    · go_wp2
      go_ret
      exact ⟨r, rfl, hr1, by omega, HMK.out⟩
end Go.Proofs.Ytcjghlplkbpjcaa
