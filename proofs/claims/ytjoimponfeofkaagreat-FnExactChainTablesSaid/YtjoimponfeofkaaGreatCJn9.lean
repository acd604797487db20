/- Parts of the proof, joined: Lh2, Lh3, Lh4, Lh5, Lh6, Lh7, Lr1. -/
import Derived.Test.YtjoimponfeofkaaGreatCJn2
import Derived.StillTailTactics
import Derived.Test.YtjoimponfeofkaaGreatCJn3
import Derived.Test.YtjoimponfeofkaaGreatChecked
namespace Go.Proofs.YtjoimponfeofkaaGreat
open Go.RowKit

set_option maxHeartbeats 400000 in
theorem eqEnd_any (a b c d : Int) (w : World) :
    Calls Tryz.prog 101 #[.agg #[.int .i64 a, .int .i64 b], .agg #[.int .i64 c, .int .i64 d]] w (RetV w (.bool (a == c && b == d))) := by
  have fin : ∀ o1 o2 : Obj, Below w.heap.size w ((w.alloc o1).alloc o2) := fun o1 o2 => ((Below.refl _ _).alloc (Nat.le_refl _) _).alloc (by simp) _
  by_cases h1 : a = c
  · have e1 : (a != c) = false := by simp [h1]
    have e1' : (a == c) = true := by simp [h1]
    by_cases h2 : b = d
    · have e2 : (b != d) = false := by simp [h2]
      have e2' : (b == d) = true := by simp [h2]
      clear h1 h2
      go_enter Tryz.func101, Tryz.ntmps101
      go_wp2
      go_ret
      exact ⟨by rw [e1', e2']; rfl, fin _ _⟩
    · have e2 : (b != d) = true := by simp [h2]
      have e2' : (b == d) = false := by simp [h2]
      clear h1 h2
      go_enter Tryz.func101, Tryz.ntmps101
      go_wp2
      go_ret
      exact ⟨by rw [e2', Bool.and_false]; rfl, fin _ _⟩
  · have e1 : (a != c) = true := by simp [h1]
    have e1' : (a == c) = false := by simp [h1]
    clear h1
    go_enter Tryz.func101, Tryz.ntmps101
    go_wp2
    go_ret
    exact ⟨by rw [e1', Bool.false_and]; rfl, fin _ _⟩

theorem pairs_ext {xs ys : List (Int × Int)} (hl : xs.length = ys.length) (h : ∀ j, j < xs.length → gp xs j = gp ys j) : xs = ys := by
  apply List.ext_getElem hl
  intro i h1 h2
  have := h i h1
  rwa [gp_lt h1, gp_lt h2] at this
theorem lists_ext {xs ys : List (List (Int × Int))} (hl : xs.length = ys.length) (h : ∀ j, j < xs.length → gl xs j = gl ys j) : xs = ys := by
  apply List.ext_getElem hl
  intro i h1 h2
  have := h i h1
  rwa [gl_lt h1, gl_lt h2] at this

def sameP (xs ys : List (Int × Int)) : Bool := decide (xs = ys)
def sameL (xs ys : List (List (Int × Int))) : Bool := decide (xs = ys)

set_option maxRecDepth 100000 in
set_option maxHeartbeats 800000 in
theorem eqEndS_any {S S' : Nat → Prop} (v u : Value) (xs ys : List (Int × Int)) (w : World) (h : EndsR w S v xs) (h' : EndsR w S' u ys) :
    Calls Tryz.prog 71 #[v, u] w (RetV w (.bool (sameP xs ys))) := by
  obtain ⟨A, c, rfl, hnc, hm, hx⟩ := h
  obtain ⟨A', c', rfl, hnc', hm', hx'⟩ := h'
  unfold maxLen at hm hm'
  have HX := Lib.hid hx
  have HX' := Lib.hid hx'
  clear hx hx'
  by_cases hl : xs.length = ys.length
  · have HL := Lib.hid hl
    have e1 : (((xs.length : Nat) : Int) != ((ys.length : Nat) : Int)) = false := by simp [hl]
    clear hl
    go_enter Tryz.func71, Tryz.ntmps71
    go_wp2
    go_loopw [5] (fun i wr => ∃ k : Nat, k ≤ xs.length ∧ i = .int .i64 k ∧ (∀ j, j < k → gp xs j = gp ys j) ∧ Below w.heap.size w wr)
      (fun i _ => xs.length - (intOf i).toNat)
    case atStart => exact ⟨0, Nat.zero_le _, rfl, fun j hj => absurd hj (Nat.not_lt_zero _), Below.refl _ _⟩
    case round =>
      obtain ⟨k, hk, rfl, hsame, hbel⟩ := hrel
      have HS := Lib.hid hsame
      clear hsame
      by_cases hlt : k < xs.length
      · have hlt' : k < ys.length := by rw [← HL.out]; exact hlt
        obtain ⟨b, off, rfl, -, hc⟩ := HX.out (by omega)
        obtain ⟨b', off', rfl, -, hc'⟩ := HX'.out (by omega)
        have h1 : wr.cell? ⟨b, off + k * 2, none⟩ = some (.int .i64 (gp xs k).1) := by rw [hbel.cell (by exact lt_of_cell (hc k hlt).1)]; exact (hc k hlt).1
        have h2 : wr.cell? ⟨b, off + k * 2 + 1, none⟩ = some (.int .i64 (gp xs k).2) := by rw [hbel.cell (by exact lt_of_cell (hc k hlt).1)]; exact (hc k hlt).2
        have h3 : wr.cell? ⟨b', off' + k * 2, none⟩ = some (.int .i64 (gp ys k).1) := by rw [hbel.cell (by exact lt_of_cell (hc' k hlt').1)]; exact (hc' k hlt').1
        have h4 : wr.cell? ⟨b', off' + k * 2 + 1, none⟩ = some (.int .i64 (gp ys k).2) := by rw [hbel.cell (by exact lt_of_cell (hc' k hlt').1)]; exact (hc' k hlt').2
        have i1 : (0 : Int) ≤ (k : Int) := by omega
        have i2 : (k : Int) < (xs.length : Int) := by omega
        have i3 : (k : Int) < (ys.length : Int) := by omega
        clear hc hc'
        have HB := Lib.hid hbel.drew
        clear hbel
        by_cases he : gp xs k = gp ys k
        · have e2 : ((gp xs k).1 == (gp ys k).1 && (gp xs k).2 == (gp ys k).2) = true := by simp [he]
          have HE := Lib.hid he
          clear he
          go_wp2
          go_still_tail 8, (by kernel_rfl)
          change wpList _ _ _ _ _ wr.drew
          generalize wr.drew = w2 at HB ⊢
          go_wp2_with (go_at_call 101; refine (eqEnd_any _ _ _ _ _).mono ?_; rintro e w3 ⟨rfl, hb3⟩; rw [e2]; have HB3 := Lib.hid (Below.thenB HB.out hb3 HB.out.size); clear hb3)
          go_roundw
          case rel =>
            refine ⟨k + 1, by omega, by go_num, fun j hj => ?_, HB3.out⟩
            by_cases h1 : j = k
            · subst h1; exact HE.out
            · exact HS.out j (by omega)
          case measure => simp [intOf]; omega
        · have e2 : ((gp xs k).1 == (gp ys k).1 && (gp xs k).2 == (gp ys k).2) = false := by
            simp only [Bool.and_eq_false_iff, beq_eq_false_iff_ne]
            rcases Classical.em ((gp xs k).1 = (gp ys k).1) with h | h
            · exact .inr fun h2 => he (Prod.ext h h2)
            · exact .inl h
          have HE := Lib.hid he
          clear he
          go_wp2
          go_still_tail 8, (by kernel_rfl)
          change wpList _ _ _ _ _ wr.drew
          generalize wr.drew = w2 at HB ⊢
          go_wp2_with (go_at_call 101; refine (eqEnd_any _ _ _ _ _).mono ?_; rintro e w3 ⟨rfl, hb3⟩; rw [e2]; have HB3 := Lib.hid (Below.thenB HB.out hb3 HB.out.size); clear hb3)
          go_ret
          have : sameP xs ys = false := by
            simp only [sameP, decide_eq_false_iff_not]
            intro h3; exact HE.out (by rw [h3])
          rw [this]
          exact ⟨rfl, HB3.out⟩
      · have hk : k = xs.length := by omega
        have : sameP xs ys = true := by
          simp only [sameP, decide_eq_true_eq]
          exact pairs_ext HL.out (fun j hj => HS.out j (by omega))
        have HT := Lib.hid this
        clear this
        go_wp2
        go_ret
        rw [HT.out]
        exact ⟨rfl, hbel⟩
  · have e1 : (((xs.length : Nat) : Int) != ((ys.length : Nat) : Int)) = true := by simp; omega
    have : sameP xs ys = false := by
      simp only [sameP, decide_eq_false_iff_not]
      intro h3; exact hl (by rw [h3])
    have HT := Lib.hid this
    clear this hl
    go_enter Tryz.func71, Tryz.ntmps71
    go_wp2
    go_ret
    rw [HT.out]
    exact ⟨rfl, Below.refl _ _⟩
end Go.Proofs.YtjoimponfeofkaaGreat

namespace Go.Proofs.YtjoimponfeofkaaGreat
open Go.RowKit

set_option maxRecDepth 100000 in
set_option maxHeartbeats 800000 in
theorem eqEndSS_any {S S' : Nat → Prop} (v u : Value) (xs ys : List (List (Int × Int))) (w : World) (h : EndSSR w S v xs) (h' : EndSSR w S' u ys) :
    Calls Tryz.prog 42 #[v, u] w (RetV w (.bool (sameL xs ys))) := by
  obtain ⟨A, c, rfl, hnc, hm, hx⟩ := h
  obtain ⟨A', c', rfl, hnc', hm', hx'⟩ := h'
  unfold maxLen at hm hm'
  have HX := Lib.hid hx
  have HX' := Lib.hid hx'
  clear hx hx'
  by_cases hl : xs.length = ys.length
  · have HL := Lib.hid hl
    have e1 : (((xs.length : Nat) : Int) != ((ys.length : Nat) : Int)) = false := by simp [hl]
    clear hl
    go_enter Tryz.func42, Tryz.ntmps42
    go_wp2
    go_loopw [5] (fun i wr => ∃ k : Nat, k ≤ xs.length ∧ i = .int .i64 k ∧ (∀ j, j < k → gl xs j = gl ys j) ∧ Below w.heap.size w wr)
      (fun i _ => xs.length - (intOf i).toNat)
    case atStart => exact ⟨0, Nat.zero_le _, rfl, fun j hj => absurd hj (Nat.not_lt_zero _), Below.refl _ _⟩
    case round =>
      obtain ⟨k, hk, rfl, hsame, hbel⟩ := hrel
      have HS := Lib.hid hsame
      clear hsame
      by_cases hlt : k < xs.length
      · have hlt' : k < ys.length := by rw [← HL.out]; exact hlt
        obtain ⟨b, off, rfl, -, hc⟩ := HX.out (by omega)
        obtain ⟨b', off', rfl, -, hc'⟩ := HX'.out (by omega)
        obtain ⟨x, hx, hxr⟩ := hc k hlt
        obtain ⟨y, hy, hyr⟩ := hc' k hlt'
        have h1 : wr.cell? ⟨b, off + k, none⟩ = some x := by rw [hbel.cell (by exact lt_of_cell hx)]; exact hx
        have h3 : wr.cell? ⟨b', off' + k, none⟩ = some y := by rw [hbel.cell (by exact lt_of_cell hy)]; exact hy
        have HR := Lib.hid (hxr.below hbel.drew)
        have HR' := Lib.hid (hyr.below hbel.drew)
        have i1 : (0 : Int) ≤ (k : Int) := by omega
        have i2 : (k : Int) < (xs.length : Int) := by omega
        have i3 : (k : Int) < (ys.length : Int) := by omega
        clear hc hc' hx hy hxr hyr
        have HB := Lib.hid hbel.drew
        clear hbel
        by_cases he : gl xs k = gl ys k
        · have e2 : sameP (gl xs k) (gl ys k) = true := by simp [he, sameP]
          have HE := Lib.hid he
          clear he
          go_wp2
          go_still_tail 8, (by kernel_rfl)
          change wpList _ _ _ _ _ wr.drew
          generalize wr.drew = w2 at HB HR HR' ⊢
          go_wp2_with (go_at_call 71; refine (eqEndS_any _ _ _ _ _ HR.out HR'.out).mono ?_; rintro e w3 ⟨rfl, hb3⟩; rw [e2]; have HB3 := Lib.hid (Below.thenB HB.out hb3 HB.out.size); clear hb3)
          go_roundw
          case rel =>
            refine ⟨k + 1, by omega, by go_num, fun j hj => ?_, HB3.out⟩
            by_cases h1 : j = k
            · subst h1; exact HE.out
            · exact HS.out j (by omega)
          case measure => simp [intOf]; omega
        · have e2 : sameP (gl xs k) (gl ys k) = false := by simp [he, sameP]
          have HE := Lib.hid he
          clear he
          go_wp2
          go_still_tail 8, (by kernel_rfl)
          change wpList _ _ _ _ _ wr.drew
          generalize wr.drew = w2 at HB HR HR' ⊢
          go_wp2_with (go_at_call 71; refine (eqEndS_any _ _ _ _ _ HR.out HR'.out).mono ?_; rintro e w3 ⟨rfl, hb3⟩; rw [e2]; have HB3 := Lib.hid (Below.thenB HB.out hb3 HB.out.size); clear hb3)
          go_ret
          have : sameL xs ys = false := by
            simp only [sameL, decide_eq_false_iff_not]
            intro h3; exact HE.out (by rw [h3])
          rw [this]
          exact ⟨rfl, HB3.out⟩
      · have hk : k = xs.length := by omega
        have : sameL xs ys = true := by
          simp only [sameL, decide_eq_true_eq]
          exact lists_ext HL.out (fun j hj => HS.out j (by omega))
        have HT := Lib.hid this
        clear this
        go_wp2
        go_ret
        rw [HT.out]
        exact ⟨rfl, hbel⟩
  · have e1 : (((xs.length : Nat) : Int) != ((ys.length : Nat) : Int)) = true := by simp; omega
    have : sameL xs ys = false := by
      simp only [sameL, decide_eq_false_iff_not]
      intro h3; exact hl (by rw [h3])
    have HT := Lib.hid this
    clear this hl
    go_enter Tryz.func42, Tryz.ntmps42
    go_wp2
    go_ret
    rw [HT.out]
    exact ⟨rfl, Below.refl _ _⟩

/-- equal networks -/
def sameN (M N : Net) : Bool := sameL M.ends N.ends && sameB M.ids N.ids && sameB M.inputs N.inputs
theorem sameN_refl (N : Net) : sameN N N = true := by simp [sameN, sameL, sameB]

set_option maxRecDepth 100000 in
set_option maxHeartbeats 800000 in
theorem eqNetwork_any {S S' : Nat → Prop} (v u : Value) (M N : Net) (w : World) (h : NetR w S v M) (h' : NetR w S' u N) :
    Calls Tryz.prog 16 #[v, u] w (RetV w (.bool (sameN M N))) := by
  obtain ⟨ve, vi, vn, rfl, he, hi, hn⟩ := h
  obtain ⟨ue, ui, un, rfl, he', hi', hn'⟩ := h'
  have hb0 : Below w.heap.size w ((w.alloc (Obj.cells #[ve, vi, vn] 39)).alloc (Obj.cells #[ue, ui, un] 39)) := ((Below.refl _ _).alloc (Nat.le_refl _) _).alloc (by simp) _
  have HB0 := Lib.hid hb0
  have C1 := Lib.hid (eqEndSS_any _ _ _ _ _ (he.below hb0) (he'.below hb0))
  have HI := Lib.hid (hi.below hb0)
  have HI' := Lib.hid (hi'.below hb0)
  have HN := Lib.hid (hn.below hb0)
  have HN' := Lib.hid (hn'.below hb0)
  clear he he' hi hi' hn hn' hb0
  cases hs1 : sameL M.ends N.ends
  · have HE : Hid (sameN M N = false) := by simp [Hid, sameN, hs1]
    go_enter Tryz.func16, Tryz.ntmps16
    go_wp2_with (go_at_call 42; refine C1.out.mono ?_; rintro e w1 ⟨rfl, hb1⟩; rw [hs1]; have HB1 := Lib.hid (Below.thenB HB0.out hb1 HB0.out.size); clear hb1)
    go_ret
    exact ⟨by rw [HE.out]; rfl, HB1.out⟩
  · cases hs2 : sameB M.ids N.ids
    · have HE : Hid (sameN M N = false) := by simp [Hid, sameN, hs2]
      go_enter Tryz.func16, Tryz.ntmps16
      go_wp2_with fail
      refine C1.out.mono ?_
      rintro e w1 ⟨rfl, hb1⟩
      rw [hs1]
      have HB1 := Lib.hid (Below.thenB HB0.out hb1 HB0.out.size)
      have C2 := Lib.hid (eqIntS_any _ _ _ _ _ (HI.out.below hb1) (HI'.out.below hb1))
      obtain ⟨hc, hf⟩ := bcell hb1
      clear hb1
      go_wp2_with (go_at_call 14; refine C2.out.mono ?_; intro e w2 hr; obtain ⟨rfl, hb2⟩ := hr.v; rw [hs2]; have HB2 := Lib.hid (Below.thenB HB1.out hb2 HB1.out.size); clear hb2)
      go_ret
      exact ⟨by rw [HE.out]; rfl, HB2.out⟩
    · have HE : Hid (sameN M N = sameB M.inputs N.inputs) := by simp [Hid, sameN, hs1, hs2]
      go_enter Tryz.func16, Tryz.ntmps16
      go_wp2_with fail
      refine C1.out.mono ?_
      rintro e w1 ⟨rfl, hb1⟩
      rw [hs1]
      have HB1 := Lib.hid hb1
      have C2 := Lib.hid (eqIntS_any _ _ _ _ _ (HI.out.below hb1) (HI'.out.below hb1))
      obtain ⟨hc, hc'⟩ := box2 hb1
      clear hb1
      go_wp2_with fail
      refine C2.out.mono ?_
      intro e w2 hr
      obtain ⟨rfl, hb2⟩ := hr.v
      rw [hs2]
      replace hb2 := Below.then_ HB1.out hb2
      have HB2 := Lib.hid hb2
      have C3 := Lib.hid (eqIntS_any _ _ _ _ _ (HN.out.below hb2) (HN'.out.below hb2))
      clear hc hc'
      obtain ⟨hc, hc'⟩ := box2 hb2
      clear hb2 C2 C1
      cases hs3 : sameB M.inputs N.inputs
      all_goals
        go_wp2_with (go_at_call 14; refine C3.out.mono ?_; intro e w3 hr; obtain ⟨rfl, hb3⟩ := hr.v; rw [hs3]; have HB3 := Lib.hid (Below.then_ HB2.out hb3); clear hb3)
        go_ret
        exact ⟨by rw [HE.out, hs3]; rfl, Below.then_ HB0.out HB3.out⟩
end Go.Proofs.YtjoimponfeofkaaGreat

namespace Go.Proofs.YtjoimponfeofkaaGreat
open Go.RowKit

set_option maxHeartbeats 400000 in
theorem toEnd_any (a b : Int) (w : World) :
    Calls Tryz.prog 96 #[.agg #[.int .i64 a, .int .i64 b]] w (RetV w (.agg #[.int .i64 a, .int .i64 b])) := by
  go_enter Tryz.func96, Tryz.ntmps96
  go_wp2
  refine bodyPost_ret (v := .agg #[.int .i64 a, .int .i64 b]) (by simp [results, Tryz.results96, go_sem]) rfl ⟨rfl, ?_⟩
  exact (((Below.refl _ _).alloc (Nat.le_refl _) _).alloc (by simp) _).alloc (by simp; omega) _

theorem end_info : (Tryz.prog.info? 97).map (fun i => (i.zero, i.size, i.bytes)) = some (some (.agg #[.int .i64 0, .int .i64 0]), 2, 16) := by kernel_rfl
theorem ends_info : (Tryz.prog.info? 89).map (fun i => (i.zero, i.size, i.bytes)) = some (some (.slice none 0 0), 1, 24) := by kernel_rfl

/-- block g is the pairs es, and may be written -/
def PairRow (w : World) (g : Nat) (t : TypeId) (es : List (Int × Int)) : Prop :=
  w.rowIs g t (es.length * 2) (fun i => if i % 2 = 0 then .int .i64 (gp es (i / 2)).1 else .int .i64 (gp es (i / 2)).2)

theorem PairRow.ends {w : World} {g : Nat} {t : TypeId} {es : List (Int × Int)} {S : Nat → Prop} (h : PairRow w g t es) (hm : es.length ≤ maxLen) (hS : S g) : EndsR w S (.slice (some ⟨g, 0, none⟩) es.length es.length) es := by
  refine ⟨_, _, rfl, Nat.le_refl _, hm, fun _ => ⟨g, 0, rfl, hS, fun j hj => ?_⟩⟩
  have h1 := World.rowIs.cell h (i := j * 2) (by omega)
  have h2 := World.rowIs.cell h (i := j * 2 + 1) (by omega)
  simp only [show (j * 2) % 2 = 0 by omega, show (j * 2) / 2 = j by omega, show (j * 2 + 1) % 2 = 1 by omega, show (j * 2 + 1) / 2 = j by omega] at h1 h2
  refine ⟨?_, ?_⟩
  · rw [Nat.zero_add, h1]; simp
  · rw [Nat.zero_add, h2]; simp

theorem rowIs_madePairs (w : World) (n : Nat) (t : TypeId) : (w.alloc (.cells (madeCells #[.int .i64 0, .int .i64 0] (n * 2)) t)).rowIs w.heap.size t (n * 2) (fun _ => .int .i64 0) := by
  have := World.rowIs_alloc w (madeCells #[.int .i64 0, .int .i64 0] (n * 2)) t (fun _ => .int .i64 0) (by
    intro i hi
    have hi' : i < n * 2 := by simpa [madeCells] using hi
    rcases Nat.mod_two_eq_zero_or_one i with h | h <;> simp [madeCells, hi', h])
  simpa [madeCells] using this

theorem run_make_rowN {P : Program} (t e : TypeId) (z : Value) (sz bytes : Nat) (ht : P.underlying t = some (.slice e)) (hinfo : (P.info? e).map (fun i => (i.zero, i.size, i.bytes)) = some (some z, sz, bytes))
    (kl kc : IntKind) (n : Nat) (hbytes : bytes * n ≤ 281474976710656) (h63 : n ≤ 9223372036854775807) (w : World) :
    (Instr.makeSlice t (.int kl (n : Int)) (.int kc (n : Int))).run P w = .ok (.slice (some ⟨w.heap.size, 0, none⟩) n n) (w.alloc (.cells (madeCells z.cells (n * sz)) e)) := by
  obtain ⟨i, hi, hz, hs, hb⟩ := info_parts hinfo
  have hb' : (i.bytes : Int) * (n : Int) ≤ 281474976710656 := by
    have h : ((i.bytes * n : Nat) : Int) ≤ 281474976710656 := by rw [hb]; omega
    rwa [Int.natCast_mul] at h
  have hr := run_make (P := P) w t e i z ht hi hz kl kc n n (by omega) (by omega) hb' (by omega)
  simp only [Int.toNat_natCast, hs] at hr
  exact hr

/-- a slice of pairs that the call has made -/
def RetE (w : World) (t : TypeId) (es : List (Int × Int)) (e : Ending) (w' : World) : Prop :=
  ∃ g, e = .returned (.slice (some ⟨g, 0, none⟩) es.length es.length) ∧ w.heap.size ≤ g ∧ PairRow w' g t es ∧ Below w.heap.size w w'

set_option maxRecDepth 100000 in
set_option maxHeartbeats 800000 in
theorem toEndS_any {S : Nat → Prop} (v : Value) (xs : List (Int × Int)) (w : World) (h : EndsR w S v xs) (hn : xs.length ≤ 2097152) :
    Calls Tryz.prog 63 #[v] w (RetE w 97 xs) := by
  obtain ⟨A, c, rfl, hnc, hm, hx⟩ := h
  have HX := Lib.hid hx
  clear hx
  have hmk := fun W => run_make_rowN (P := Tryz.prog) 89 97 (.agg #[.int .i64 0, .int .i64 0]) 2 16 Tryz.underlying89 end_info .i64 .i64 xs.length (by omega) (by omega) W
  simp only [Value.cells] at hmk
  go_enter Tryz.func63, Tryz.ntmps63
  go_wp2
  go_loopw [4] (fun i wr => ∃ k : Nat, k ≤ xs.length ∧ i = .int .i64 k ∧ wr.rowIs w.heap.size 97 (xs.length * 2) (fun i => if i < k * 2 then (if i % 2 = 0 then .int .i64 (gp xs (i / 2)).1 else .int .i64 (gp xs (i / 2)).2) else .int .i64 0) ∧ Below w.heap.size w wr)
    (fun i _ => xs.length - (intOf i).toNat)
  case atStart =>
    refine ⟨0, Nat.zero_le _, rfl, ?_, (Below.refl _ _).alloc (Nat.le_refl _) _⟩
    simpa using rowIs_madePairs w xs.length 97
  case round =>
    obtain ⟨k, hk, rfl, hrow, hbel⟩ := hrel
    by_cases hlt : k < xs.length
    · obtain ⟨b, off, rfl, -, hc⟩ := HX.out (by omega)
      have hlb := lt_of_cell (hc k hlt).1
      have hcell : wr.cell? ⟨b, off + k * 2, none⟩ = some (.int .i64 (gp xs k).1) := by rw [hbel.cell (by exact hlb)]; exact (hc k hlt).1
      have hcell' : wr.cell? ⟨b, off + k * 2 + 1, none⟩ = some (.int .i64 (gp xs k).2) := by rw [hbel.cell (by exact hlb)]; exact (hc k hlt).2
      have HR := Lib.hid hrow
      have HB := Lib.hid hbel
      clear hbel hc hmk hrow
      go_wp2_with fail
      refine (toEnd_any _ _ _).mono ?_
      rintro e w1 ⟨rfl, hb1⟩
      have HB1 := Lib.hid (Below.thenB HB.out hb1 HB.out.size)
      have hrow1 : w1.rowIs w.heap.size 97 (xs.length * 2) _ := HR.out.of_block (hb1.block _ HR.out.lt)
      have hc2 := hrow1.cell (i := k * 2) (by omega)
      have hc3 := hrow1.cell (i := k * 2 + 1) (by omega)
      have hf2 := hrow1.frozen (k * 2)
      have hf3 := hrow1.frozen (k * 2 + 1)
      have hrow2 := (hrow1.set (k * 2) (.int .i64 (gp xs k).1)).set (k * 2 + 1) (.int .i64 (gp xs k).2)
      have HH := Lib.hid hrow2
      clear hrow2 hrow1 hb1
      go_wp2
      have HB2 := Lib.hid ((HB1.out.setCell (p := ⟨w.heap.size, k * 2, none⟩) (Nat.le_refl _) (.int .i64 (gp xs k).1)).setCell (p := ⟨w.heap.size, k * 2 + 1, none⟩) (Nat.le_refl _) (.int .i64 (gp xs k).2))
      go_roundw
      case rel =>
        refine ⟨k + 1, by omega, by go_num, HH.out.congr fun i hi => ?_, HB2.out⟩
        by_cases h1 : i = k * 2 + 1
        · subst h1
          simp [show (k * 2 + 1) % 2 = 1 by omega, show (k * 2 + 1) / 2 = k by omega, show k * 2 + 1 < (k + 1) * 2 by omega]
        · by_cases h2 : i = k * 2
          · subst h2
            simp [show k * 2 < (k + 1) * 2 by omega]
          · by_cases h3 : i < k * 2
            · simp [h1, h2, h3, show i < (k + 1) * 2 by omega]
            · simp [h1, h2, h3, show ¬ i < (k + 1) * 2 by omega]
      case measure => simp [intOf]; omega
    · go_wp2
      go_ret
      exact ⟨_, rfl, Nat.le_refl _, hrow.congr fun i hi => by simp [show i < k * 2 by omega], hbel⟩

/-- slices of pairs, each in a block of its own, in a block of slices: all from B on -/
def OwnEE (w : World) (B : Nat) (v : Value) (ess : List (List (Int × Int))) : Prop :=
  ∃ (g : Nat) (gs : Nat → Nat), v = .slice (some ⟨g, 0, none⟩) ess.length ess.length ∧ B ≤ g ∧
    w.rowIs g 89 ess.length (fun i => .slice (some ⟨gs i, 0, none⟩) (gl ess i).length (gl ess i).length) ∧
    ∀ i, i < ess.length → B ≤ gs i ∧ PairRow w (gs i) 97 (gl ess i)

theorem PairRow.lt {w : World} {g : Nat} {t : TypeId} {es : List (Int × Int)} (h : PairRow w g t es) : g < w.heap.size := World.rowIs.lt h

theorem OwnEE.ends {w : World} {B : Nat} {v : Value} {ess : List (List (Int × Int))} (h : OwnEE w B v ess) (hm : ess.length ≤ maxLen) (hm' : ∀ i, i < ess.length → (gl ess i).length ≤ maxLen) : EndSSR w (fun b => B ≤ b) v ess := by
  obtain ⟨g, gs, rfl, hB, hrow, hp⟩ := h
  refine ⟨_, _, rfl, Nat.le_refl _, hm, fun _ => ⟨g, 0, rfl, hB, fun j hj => ⟨_, ?_, (hp j hj).2.ends (hm' j hj) (hp j hj).1⟩⟩⟩
  rw [Nat.zero_add]
  exact hrow.cell hj
theorem OwnEE.below {w w' : World} {B : Nat} {v : Value} {ess : List (List (Int × Int))} (h : OwnEE w B v ess) (hb : Below w.heap.size w w') : OwnEE w' B v ess := by
  obtain ⟨g, gs, rfl, hB, hrow, hp⟩ := h
  exact ⟨g, gs, rfl, hB, hrow.of_block (hb.block _ hrow.lt), fun i hi => ⟨(hp i hi).1, World.rowIs.of_block (hp i hi).2 (hb.block _ (hp i hi).2.lt)⟩⟩
theorem OwnEE.keepB {w w' : World} {B : Nat} {v : Value} {ess : List (List (Int × Int))} (h : OwnEE w B v ess) (hk : ∀ b, B ≤ b → b < w.heap.size → w'.heap[b]? = w.heap[b]?) : OwnEE w' B v ess := by
  obtain ⟨g, gs, rfl, hB, hrow, hp⟩ := h
  exact ⟨g, gs, rfl, hB, hrow.of_block (hk _ hB hrow.lt), fun i hi => ⟨(hp i hi).1, World.rowIs.of_block (hp i hi).2 (hk _ (hp i hi).1 (hp i hi).2.lt)⟩⟩
theorem OwnEE.far {w : World} {B : Nat} {v : Value} {ess : List (List (Int × Int))} (h : OwnEE w B v ess) {p : Addr} (hp : p.block < B) (u : Value) : OwnEE (w.setCell p u) B v ess :=
  h.keepB fun b hb _ => Below.heap_setCell w p u b (by omega)
theorem OwnEE.shape {w : World} {B : Nat} {v : Value} {ess : List (List (Int × Int))} (h : OwnEE w B v ess) : ∃ A c, v = .slice A ess.length c := by
  obtain ⟨g, gs, rfl, _⟩ := h
  exact ⟨_, _, rfl⟩
theorem OwnEE.mono {w : World} {B B' : Nat} {v : Value} {ess : List (List (Int × Int))} (h : OwnEE w B v ess) (hb : B' ≤ B) : OwnEE w B' v ess := by
  obtain ⟨g, gs, rfl, hB, hrow, hp⟩ := h
  exact ⟨g, gs, rfl, by omega, hrow, fun i hi => ⟨by have := (hp i hi).1; omega, (hp i hi).2⟩⟩

def RetEE (w : World) (ess : List (List (Int × Int))) (e : Ending) (w' : World) : Prop :=
  ∃ v, e = .returned v ∧ OwnEE w' w.heap.size v ess ∧ Below w.heap.size w w'

/-- all parts of a list of lists are short -/
def Short (ess : List (List (Int × Int))) : Prop := ess.length ≤ 2097152 ∧ ∀ i, i < ess.length → (gl ess i).length ≤ 2097152

set_option maxRecDepth 100000 in
set_option maxHeartbeats 800000 in
theorem toEndSS_any {S : Nat → Prop} (v : Value) (xs : List (List (Int × Int))) (w : World) (h : EndSSR w S v xs) (hn : Short xs) :
    Calls Tryz.prog 37 #[v] w (RetEE w xs) := by
  obtain ⟨A, c, rfl, hnc, hm, hx⟩ := h
  have HX := Lib.hid hx
  obtain ⟨hn, hs⟩ := hn
  have HS := Lib.hid hs
  clear hx hs
  have hmk := fun W => run_make_rowN (P := Tryz.prog) 37 89 (.slice none 0 0) 1 24 Tryz.underlying37 ends_info .i64 .i64 xs.length (by omega) (by omega) W
  simp only [Value.cells, Nat.mul_one] at hmk
  go_enter Tryz.func37, Tryz.ntmps37
  go_wp2
  go_loopw [4] (fun i wr => ∃ (k : Nat) (gs : Nat → Nat), k ≤ xs.length ∧ i = .int .i64 k ∧ wr.rowIs w.heap.size 89 xs.length (fun i => if i < k then .slice (some ⟨gs i, 0, none⟩) (gl xs i).length (gl xs i).length else .slice none 0 0) ∧
      (∀ i, i < k → w.heap.size < gs i ∧ PairRow wr (gs i) 97 (gl xs i)) ∧ Below w.heap.size w wr)
    (fun i _ => xs.length - (intOf i).toNat)
  case atStart =>
    refine ⟨0, fun _ => 0, Nat.zero_le _, rfl, ?_, fun i hi => absurd hi (Nat.not_lt_zero _), (Below.refl _ _).alloc (Nat.le_refl _) _⟩
    simpa using World.rowIs_made w (.slice none 0 0) xs.length 89
  case round =>
    obtain ⟨k, gs, hk, rfl, hrow, hgs, hbel⟩ := hrel
    by_cases hlt : k < xs.length
    · obtain ⟨b, off, rfl, -, hc⟩ := HX.out (by omega)
      obtain ⟨u, hu, hr⟩ := hc k hlt
      have hcell : wr.cell? ⟨b, off + k, none⟩ = some u := by rw [hbel.cell (by exact lt_of_cell hu)]; exact hu
      have C := Lib.hid (toEndS_any _ _ wr (hr.below hbel) (HS.out k hlt))
      have HR := Lib.hid hrow
      have HB := Lib.hid hbel
      have HG := Lib.hid hgs
      clear hbel hc hmk hrow hgs hu hr
      go_wp2_with fail
      refine C.out.mono ?_
      rintro e w1 ⟨g, rfl, hg, hp, hb1⟩
      have hgw : w.heap.size < g := Nat.lt_of_lt_of_le HR.out.lt hg
      have HB1 := Lib.hid (Below.thenB HB.out hb1 HB.out.size)
      have hrow1 : w1.rowIs w.heap.size 89 xs.length _ := HR.out.of_block (hb1.block _ HR.out.lt)
      have hc2 := hrow1.cell (i := k) (by omega)
      have hf2 := hrow1.frozen k
      have hrow2 := hrow1.set k (.slice (some ⟨g, 0, none⟩) (gl xs k).length (gl xs k).length)
      have hgs2 : ∀ i, i < k + 1 → w.heap.size < (if i = k then g else gs i) ∧ PairRow (w1.setCell ⟨w.heap.size, k, none⟩ (.slice (some ⟨g, 0, none⟩) (gl xs k).length (gl xs k).length)) (if i = k then g else gs i) 97 (gl xs i) := by
        intro i hi
        by_cases h1 : i = k
        · subst h1
          rw [if_pos rfl]
          exact ⟨hgw, World.rowIs.setOther hp (by simp; omega) _⟩
        · rw [if_neg h1]
          have h2 := HG.out i (by omega)
          exact ⟨h2.1, World.rowIs.setOther (World.rowIs.of_block h2.2 (hb1.block _ h2.2.lt)) (by have := h2.1; simp; omega) _⟩
      have HH := Lib.hid hrow2
      have HG2 := Lib.hid hgs2
      have HB2 := Lib.hid (HB1.out.setCell (p := ⟨w.heap.size, k, none⟩) (Nat.le_refl _) (.slice (some ⟨g, 0, none⟩) (gl xs k).length (gl xs k).length))
      clear hrow2 hrow1 hb1 hp hgs2 HG C
      go_wp2
      go_roundw
      case rel =>
        refine ⟨k + 1, fun i => if i = k then g else gs i, by omega, by go_num, HH.out.congr fun i hi => ?_, HG2.out, HB2.out⟩
        by_cases h1 : i = k
        · subst h1; simp
        · by_cases h2 : i < k
          · simp [h1, h2, show i < k + 1 by omega]
          · simp [h1, h2, show ¬ i < k + 1 by omega]
      case measure => simp [intOf]; omega
    · go_wp2
      go_ret
      exact ⟨_, rfl, ⟨_, gs, rfl, Nat.le_refl _, hrow.congr fun i hi => by simp [show i < k by omega], fun i hi => ⟨by have := (hgs i (by omega)).1; omega, (hgs i (by omega)).2⟩⟩, hbel⟩
end Go.Proofs.YtjoimponfeofkaaGreat

namespace Go.Proofs.YtjoimponfeofkaaGreat
open Go.RowKit

/-- what is left of a number behind n things -/
def szI (n : Nat) (left : Int) : Int := if left - n < 0 then -1 else left - n

theorem szIntS_any (A : Option Addr) (n c : Nat) (left : Int) (w : World) (hn : n ≤ 9223372036854775807) (h0 : 0 ≤ left) (h1 : left ≤ 1048576) :
    Calls Tryz.prog 33 #[.slice A n c, .int .i64 left] w (RetQ w (.int .i64 (szI n left))) := by
  by_cases h : left - n < 0
  · have HE : Hid (szI n left = -1) := by simp [Hid, szI, h]
    go_enter Tryz.func33, Tryz.ntmps33
    go_wp2
    go_ret
    exact ⟨by rw [HE.out]; rfl, rfl⟩
  · have HE : Hid (szI n left = left - n) := by simp [Hid, szI, h]
    go_enter Tryz.func33, Tryz.ntmps33
    go_wp2
    go_ret
    exact ⟨by rw [HE.out]; rfl, rfl⟩

theorem szEndS_any (A : Option Addr) (n c : Nat) (left : Int) (w : World) (hn : n ≤ 9223372036854775807) (h0 : 0 ≤ left) (h1 : left ≤ 1048576) :
    Calls Tryz.prog 58 #[.slice A n c, .int .i64 left] w (RetQ w (.int .i64 (szI n left))) := by
  by_cases h : left - n < 0
  · have HE : Hid (szI n left = -1) := by simp [Hid, szI, h]
    go_enter Tryz.func58, Tryz.ntmps58
    go_wp2
    go_ret
    exact ⟨by rw [HE.out]; rfl, rfl⟩
  · have HE : Hid (szI n left = left - n) := by simp [Hid, szI, h]
    go_enter Tryz.func58, Tryz.ntmps58
    go_wp2
    go_ret
    exact ⟨by rw [HE.out]; rfl, rfl⟩

theorem szI_le {n : Nat} {left : Int} (h : 0 ≤ left) : -1 ≤ szI n left ∧ szI n left ≤ left ∧ (0 ≤ szI n left → szI n left = left - n ∧ (n : Int) ≤ left) := by
  unfold szI; split <;> omega

/-- a number comes back; if it isn't below zero then P -/
def RetSz (w : World) (left : Int) (P : Prop) (e : Ending) (w' : World) : Prop := ∃ r : Int, e = .returned (.int .i64 r) ∧ -1 ≤ r ∧ r ≤ left ∧ (0 ≤ r → P) ∧ w = w'
def RetSzB (w : World) (left : Int) (P : Prop) (e : Ending) (w' : World) : Prop := ∃ r : Int, e = .returned (.int .i64 r) ∧ -1 ≤ r ∧ r ≤ left ∧ (0 ≤ r → P) ∧ Below w.heap.size w w'

set_option maxRecDepth 100000 in
set_option maxHeartbeats 800000 in
theorem szEndSS_any {S : Nat → Prop} (v : Value) (xs : List (List (Int × Int))) (left : Int) (w : World) (h : EndSSR w S v xs) (h0 : 0 ≤ left) (h1 : left ≤ 1048576) :
    Calls Tryz.prog 32 #[v, .int .i64 left] w (RetSz w left (Short xs)) := by
  obtain ⟨A, c, rfl, hnc, hm, hx⟩ := h
  unfold maxLen at hm
  have HX := Lib.hid hx
  clear hx
  by_cases h : left - xs.length < 0
  · go_enter Tryz.func32, Tryz.ntmps32
    go_wp2
    go_ret
    exact ⟨-1, rfl, by omega, by omega, fun h => absurd h (by omega), rfl⟩
  · go_enter Tryz.func32, Tryz.ntmps32
    go_wp2
    go_loop [1, 5] (fun l i => ∃ (k : Nat) (r : Int), k ≤ xs.length ∧ i = .int .i64 k ∧ l = .int .i64 r ∧ 0 ≤ r ∧ r ≤ left ∧ ∀ j, j < k → (gl xs j).length ≤ 1048576)
      (fun _ i => xs.length - (intOf i).toNat)
    case atStart => exact ⟨0, _, Nat.zero_le _, rfl, rfl, by omega, by omega, fun j hj => absurd hj (Nat.not_lt_zero _)⟩
    case round =>
      obtain ⟨k, r, hk, rfl, rfl, hr0, hr1, hj⟩ := hrel
      have HJ := Lib.hid hj
      clear hj
      by_cases hlt : k < xs.length
      · obtain ⟨b, off, rfl, -, hc⟩ := HX.out (by omega)
        obtain ⟨u, hu, A', c', rfl, hn', hm', -⟩ := hc k hlt
        unfold maxLen at hm'
        clear hc
        have hz := szI_le (n := (gl xs k).length) hr0
        obtain ⟨q, hq⟩ : ∃ q, q = szI (gl xs k).length r := ⟨_, rfl⟩
        rw [← hq] at hz
        have C := Lib.hid (szEndS_any A' (gl xs k).length c' r w (by omega) hr0 (by omega))
        rw [← hq] at C
        have HZ := Lib.hid hz.2.2
        obtain ⟨hz1, hz2, -⟩ := hz
        clear hq
        by_cases hneg : q < 0
        · go_wp2_with (go_at_call 58; refine C.out.mono ?_; rintro e w1 ⟨rfl, rfl⟩)
          go_ret
          exact ⟨-1, rfl, by omega, by omega, fun h => absurd h (by omega), rfl⟩
        · go_wp2_with (go_at_call 58; refine C.out.mono ?_; rintro e w1 ⟨rfl, rfl⟩)
          go_round
          case rel =>
            refine ⟨k + 1, q, by omega, by go_num, rfl, by omega, by omega, fun j hj => ?_⟩
            by_cases h1 : j = k
            · subst h1; have := (HZ.out (by omega)).2; omega
            · exact HJ.out j (by omega)
          case measure => simp [intOf]; omega
      · go_wp2
        go_ret
        exact ⟨r, rfl, by omega, by omega, fun h => ⟨by omega, fun i hi => by have := HJ.out i (by omega); omega⟩, rfl⟩

/-- a network whose lists are short -/
def ShortN (N : Net) : Prop := Short N.ends ∧ N.ids.length ≤ 1048576 ∧ N.inputs.length ≤ 1048576

set_option maxRecDepth 100000 in
set_option maxHeartbeats 800000 in
theorem szNetwork_any {S : Nat → Prop} (v : Value) (N : Net) (left : Int) (w : World) (h : NetR w S v N) (h0 : 0 ≤ left) (h1 : left ≤ 1048576) :
    Calls Tryz.prog 9 #[v, .int .i64 left] w (RetSzB w left (ShortN N)) := by
  obtain ⟨ve, vi, vn, rfl, he, hi, hn⟩ := h
  obtain ⟨A1, c1, rfl, hl1, hm1, -⟩ := hi
  obtain ⟨A2, c2, rfl, hl2, hm2, -⟩ := hn
  unfold maxLen at hm1 hm2
  have hb0 : Below w.heap.size w (w.alloc (Obj.cells #[ve, .slice A1 N.ids.length c1, .slice A2 N.inputs.length c2] 28)) := (Below.refl _ _).alloc (Nat.le_refl _) _
  have C1 := Lib.hid (szEndSS_any _ _ left _ (he.below hb0) h0 h1)
  have HB0 := Lib.hid hb0
  clear he hb0
  go_enter Tryz.func9, Tryz.ntmps9
  go_wp2_with fail
  refine C1.out.mono ?_
  rintro e w1 ⟨r1, rfl, hr1, hr1', hp1, rfl⟩
  have HP1 := Lib.hid hp1
  clear hp1
  by_cases hneg : r1 < 0
  · go_wp2_with fail
    go_ret
    exact ⟨-1, rfl, by omega, by omega, fun h => absurd h (by omega), HB0.out⟩
  go_wp2_with fail
  refine (szIntS_any _ _ _ r1 _ (by omega) (by omega) (by omega)).mono ?_
  obtain ⟨q, hq⟩ : ∃ q, q = szI N.ids.length r1 := ⟨_, rfl⟩
  have hz := szI_le (n := N.ids.length) (left := r1) (by omega)
  rw [← hq] at hz ⊢
  obtain ⟨hz1, hz2, hz3⟩ := hz
  have HZ := Lib.hid hz3
  clear hz3 hq
  rintro e w1 ⟨rfl, rfl⟩
  by_cases hneg2 : q < 0
  · go_wp2_with fail
    go_ret
    exact ⟨-1, rfl, by omega, by omega, fun h => absurd h (by omega), HB0.out⟩
  go_wp2_with fail
  refine (szIntS_any _ _ _ q _ (by omega) (by omega) (by omega)).mono ?_
  obtain ⟨p, hp⟩ : ∃ p, p = szI N.inputs.length q := ⟨_, rfl⟩
  have hz := szI_le (n := N.inputs.length) (left := q) (by omega)
  rw [← hp] at hz ⊢
  obtain ⟨hy1, hy2, hy3⟩ := hz
  have HY := Lib.hid hy3
  clear hy3 hp
  rintro e w1 ⟨rfl, rfl⟩
  by_cases hneg3 : p < 0
  · go_wp2_with fail
    go_ret
    exact ⟨-1, rfl, by omega, by omega, fun h => absurd h (by omega), HB0.out⟩
  go_wp2_with fail
  go_ret
  refine ⟨p, rfl, by omega, by omega, fun _ => ⟨HP1.out (by omega), ?_, ?_⟩, HB0.out⟩
  · have := (HZ.out (by omega)).2; omega
  · have := (HY.out (by omega)).2; omega

/-- a network in memory of the call's own -/
def OwnN (w : World) (B : Nat) (v : Value) (N : Net) : Prop :=
  ∃ ve vi vn, v = .agg #[ve, vi, vn] ∧ OwnEE w B ve N.ends ∧ OwnI w B vi N.ids ∧ OwnI w B vn N.inputs
theorem OwnN.below {w w' : World} {B : Nat} {v : Value} {N : Net} (h : OwnN w B v N) (hb : Below w.heap.size w w') : OwnN w' B v N := by
  obtain ⟨ve, vi, vn, rfl, h1, h2, h3⟩ := h
  exact ⟨ve, vi, vn, rfl, h1.below hb, h2.below hb, h3.below hb⟩
theorem OwnN.net {w : World} {B : Nat} {v : Value} {N : Net} (h : OwnN w B v N) (hs : ShortN N) : NetR w (fun b => B ≤ b) v N := by
  obtain ⟨ve, vi, vn, rfl, h1, h2, h3⟩ := h
  refine ⟨ve, vi, vn, rfl, h1.ends ?_ (fun i hi => ?_), h2.ints, h3.ints⟩
  · have := hs.1.1; unfold maxLen; omega
  · have := hs.1.2 i hi; unfold maxLen; omega
def RetN (w : World) (N : Net) (e : Ending) (w' : World) : Prop := ∃ v, e = .returned v ∧ OwnN w' w.heap.size v N ∧ Below w.heap.size w w'

set_option maxRecDepth 100000 in
set_option maxHeartbeats 800000 in
theorem toNetwork_any {S : Nat → Prop} (v : Value) (N : Net) (w : World) (h : NetR w S v N) (hs : ShortN N) :
    Calls Tryz.prog 12 #[v] w (RetN w N) := by
  obtain ⟨ve, vi, vn, rfl, he, hi, hn⟩ := h
  have hb0 : ∀ o1 o2 o3, Below w.heap.size w (((w.alloc o1).alloc o2).alloc o3) := fun o1 o2 o3 => (((Below.refl _ _).alloc (Nat.le_refl _) _).alloc (by simp) _).alloc (by simp; omega) _
  have HE := Lib.hid he
  have HI := Lib.hid hi
  have HN := Lib.hid hn
  have HB0 := Lib.hid hb0
  have HS := Lib.hid hs
  clear he hi hn hb0 hs
  go_enter Tryz.func12, Tryz.ntmps12
  go_wp2_with fail
  refine (toEndSS_any _ _ _ (HE.out.below (HB0.out _ _ _)) HS.out.1).mono ?_
  rintro e w1 ⟨v1, rfl, ho1, hb1⟩
  obtain ⟨k0, k1, k2⟩ := box3 hb1
  obtain ⟨A1, c1, rfl⟩ := ho1.shape
  simp only [World.size_alloc] at ho1
  have h0c := k0.cell
  have h2c := k2.cell
  have h2f := k2.free
  have HO1 := Lib.hid (ho1.far (p := ⟨w.heap.size + 1 + 1, 0, none⟩) (by simp) (.slice A1 N.ends.length c1))
  have HB1 := Lib.hid ((Below.then_ (HB0.out _ _ _) hb1).setCell (p := ⟨w.heap.size + 1 + 1, 0, none⟩) (by simp; omega) (.slice A1 N.ends.length c1))
  have K0 := Lib.hid (k0.far (p := ⟨w.heap.size + 1 + 1, 0, none⟩) (by simp; omega) (.slice A1 N.ends.length c1))
  have K1 := Lib.hid (k1.far (p := ⟨w.heap.size + 1 + 1, 0, none⟩) (by simp) (.slice A1 N.ends.length c1))
  have K2 := Lib.hid (k2.put 0 (.slice A1 N.ends.length c1))
  clear hb1 ho1 k0 k1 k2
  go_wp2_with fail
  clear h0c h2c h2f
  generalize w1.setCell ⟨w.heap.size + 1 + 1, 0, none⟩ (.slice A1 N.ends.length c1) = w2 at HO1 HB1 K0 K1 K2 ⊢
  refine (toIntS_any _ _ _ (HI.out.below HB1.out) (by have := HS.out.2.1; omega)).mono ?_
  rintro e w3 ⟨v2, rfl, ho2, hb2⟩
  obtain ⟨A2, c2, rfl⟩ := ho2.shape
  have hsz : w.heap.size + 1 + 1 < w2.heap.size := K2.out.lt
  have k0 := K0.out.below hb2
  have k1 := K1.out.below hb2
  have k2 := K2.out.below hb2
  have h0c := k0.cell
  have h2c := k2.cell
  have h2f := k2.free
  have HO1' := Lib.hid ((HO1.out.below hb2).far (p := ⟨w.heap.size + 1 + 1, 1, none⟩) (by simp) (.slice A2 N.ids.length c2))
  have HO2 := Lib.hid (ho2.far (p := ⟨w.heap.size + 1 + 1, 1, none⟩) hsz (.slice A2 N.ids.length c2))
  have HB2 := Lib.hid ((Below.then_ HB1.out hb2).setCell (p := ⟨w.heap.size + 1 + 1, 1, none⟩) (by simp; omega) (.slice A2 N.ids.length c2))
  have K0' := Lib.hid (k0.far (p := ⟨w.heap.size + 1 + 1, 1, none⟩) (by simp; omega) (.slice A2 N.ids.length c2))
  have K1' := Lib.hid (k1.far (p := ⟨w.heap.size + 1 + 1, 1, none⟩) (by simp) (.slice A2 N.ids.length c2))
  have K2' := Lib.hid (k2.put 1 (.slice A2 N.ids.length c2))
  clear hb2 ho2 k0 k1 k2 K0 K1 K2 HO1 HB1
  go_wp2_with fail
  clear h0c h2c h2f
  generalize w3.setCell ⟨w.heap.size + 1 + 1, 1, none⟩ (.slice A2 N.ids.length c2) = w4 at HO1' HO2 HB2 K0' K1' K2' ⊢
  refine (toIntS_any _ _ _ (HN.out.below HB2.out) (by have := HS.out.2.2; omega)).mono ?_
  rintro e w5 ⟨v3, rfl, ho3, hb3⟩
  obtain ⟨A3, c3, rfl⟩ := ho3.shape
  have hsz4 : w.heap.size + 1 + 1 < w4.heap.size := K2'.out.lt
  have k1 := K1'.out.below hb3
  have k0 := K0'.out.below hb3
  have k2 := K2'.out.below hb3
  have h0c := k0.cell
  have h1c := k1.cell
  have h1f := k1.free
  have h2c := k2.cell
  have h2f := k2.free
  have HO1 := Lib.hid ((((HO1'.out.below hb3).far (p := ⟨w.heap.size + 1 + 1, 2, none⟩) (by simp) (.slice A3 N.inputs.length c3))).mono (B' := w.heap.size + 2) (by omega))
  have HO2' := Lib.hid (((HO2.out.below hb3).far (p := ⟨w.heap.size + 1 + 1, 2, none⟩) hsz (.slice A3 N.inputs.length c3)).mono (B' := w.heap.size + 2) (by omega))
  have HO3 := Lib.hid ((ho3.far (p := ⟨w.heap.size + 1 + 1, 2, none⟩) hsz4 (.slice A3 N.inputs.length c3)).mono (B' := w.heap.size + 2) (by omega))
  have HB3 := Lib.hid ((Below.then_ HB2.out hb3).setCell (p := ⟨w.heap.size + 1 + 1, 2, none⟩) (by simp; omega) (.slice A3 N.inputs.length c3))
  have hcc := (k2.put 2 (.slice A3 N.inputs.length c3)).cell
  have hcd := (k1.far (p := ⟨w.heap.size + 1 + 1, 2, none⟩) (by simp) (.slice A3 N.inputs.length c3)).cell
  have hcf := (k1.far (p := ⟨w.heap.size + 1 + 1, 2, none⟩) (by simp) (.slice A3 N.inputs.length c3)).free
  clear hb3 ho3 k0 k1 k2 K0' K1' K2' HO1' HB2 HO2
  go_wp2_with fail
  refine bodyPost_ret (v := .agg #[.slice A1 N.ends.length c1, .slice A2 N.ids.length c2, .slice A3 N.inputs.length c3]) ?_ rfl ?_
  · simp [results, Tryz.results12, go_sem, hcd]
  · refine ⟨_, rfl, ⟨_, _, _, rfl, ?_, ?_, ?_⟩, ?_⟩
    · exact (((HO1.out.far (by simp) _).far (by simp) _).far (by simp) _).mono (by omega)
    · exact (((HO2'.out.far (by simp) _).far (by simp) _).far (by simp) _).mono (by omega)
    · exact (((HO3.out.far (by simp) _).far (by simp) _).far (by simp) _).mono (by omega)
    · exact ((HB3.out.setCell (by simp) _).setCell (by simp) _).setCell (by simp) _
end Go.Proofs.YtjoimponfeofkaaGreat

namespace Go.Proofs.YtjoimponfeofkaaGreat
open Go.RowKit

/-- the marks k, k + 1, .. -/
def mks (k : Int) (n : Nat) : List Int := (List.range n).map fun (i : Nat) => k + (i : Int)
theorem mks_length (k : Int) (n : Nat) : (mks k n).length = n := by simp [mks]
theorem mks_get {k : Int} {n j : Nat} (h : j < n) : gi (mks k n) j = k + (j : Int) := by simp [mks, gi, h]
theorem mks_step (k : Int) (xs : List Int) {j : Nat} (h : j < xs.length) : (mks k j ++ xs.drop j).set j (k + (j : Int)) = mks k (j + 1) ++ xs.drop (j + 1) := by
  have e : (mks k j ++ xs.drop j).set j (k + (j : Int)) = mks k j ++ (xs.drop j).set 0 (k + (j : Int)) := by
    rw [List.set_append_right _ _ (by rw [mks_length]; exact Nat.le_refl _)]
    simp [mks_length]
  rw [e]
  have e2 : (xs.drop j).set 0 (k + (j : Int)) = (k + (j : Int)) :: xs.drop (j + 1) := by
    rw [List.drop_eq_getElem_cons h]; rfl
  rw [e2]
  simp [mks, List.range_succ]

/-- owned slices of ints stay such -/
def OwnKept (w w' : World) : Prop := ∀ B u ys, OwnI w B u ys → ∃ ys', ys'.length = ys.length ∧ OwnI w' B u ys'
theorem OwnKept.refl (w : World) : OwnKept w w := fun _ _ ys h => ⟨ys, rfl, h⟩
theorem OwnKept.put {w w' : World} (h : OwnKept w w') (g j : Nat) (q : Int) : OwnKept w (w'.setCell ⟨g, j, none⟩ (.int .i64 q)) := fun B u ys ho => by
  obtain ⟨zs, hl, hz⟩ := h B u ys ho
  rcases Nat.eq_zero_or_pos zs.length with h0 | hp
  · refine ⟨zs, hl, hz.1, ?_⟩
    rcases hz.2 with h2 | ⟨g', cap, cur, rfl, hB, hg, hr⟩
    · exact .inl h2
    · by_cases e : g' = g
      · subst e
        refine .inr ⟨g', cap, cur.setIfInBounds j (.int .i64 q), rfl, hB, Blk.put hg j _, hr.1, hr.2.1, by simpa using hr.2.2.1, ?_⟩
        have hl0 : zs = [] := List.length_eq_zero_iff.1 h0
        subst hl0
        simp [ic]
      · exact .inr ⟨g', cap, cur, rfl, hB, (Below.heap_setCell w' _ _ g' e).trans hg, hr⟩
  · obtain ⟨g', cap, rfl, hB, hg, h1, h2⟩ := hz.addr hp
    by_cases e : g' = g
    · subst e
      exact ⟨zs.set j q, by simpa using hl, by have := hz.put (j := j) rfl q; simpa [OwnI] using this⟩
    · refine ⟨zs, hl, hz.1, ?_⟩
      rcases hz.2 with ⟨h3, h4⟩ | ⟨g2, cap2, cur, h3, hB2, hg2, hr⟩
      · omega
      · cases h3
        exact .inr ⟨_, _, cur, rfl, hB2, (Below.heap_setCell w' _ _ _ e).trans hg2, hr⟩

/-- what markIntS gives -/
def RetMk (w : World) (B : Nat) (v : Value) (k : Int) (n : Nat) (e : Ending) (w' : World) : Prop :=
  e = .returned (.int .i64 (k + n)) ∧ OwnI w' B v (mks k n) ∧ w.grownBy w' v.ownBlock ∧ OwnKept w w'

set_option maxRecDepth 100000 in
set_option maxHeartbeats 1000000 in
theorem markIntS_any (B : Nat) (v : Value) (xs : List Int) (k : Int) (w : World) (h : OwnI w B v xs) (hn : xs.length ≤ 4194304) (h0 : 0 ≤ k) (h1 : k ≤ 1125899906842624) :
    Calls Tryz.prog 19 #[v, .int .i64 k] w (RetMk w B v k xs.length) := by
  by_cases hp : 0 < xs.length
  · obtain ⟨g, cap, rfl, hB, hg, hc1, hc2⟩ := h.addr hp
    have HO := Lib.hid h
    clear h
    obtain ⟨n, hnn⟩ : ∃ n, n = xs.length := ⟨_, rfl⟩
    rw [← hnn] at hp hn hc1 HO ⊢
    have HN := Lib.hid hnn
    clear hnn
    go_enter Tryz.func19, Tryz.ntmps19
    go_wp2
    go_loopw [1, 5] (fun vk vi wr => ∃ j : Nat, j ≤ n ∧ vi = .int .i64 j ∧ vk = .int .i64 (k + j) ∧ OwnI wr B (.slice (some ⟨g, 0, none⟩) n cap) (mks k j ++ xs.drop j) ∧ w.grownBy wr (some g) ∧ OwnKept w wr)
      (fun _ vi _ => n - (intOf vi).toNat)
    case atStart => exact ⟨0, Nat.zero_le _, rfl, by simp, by simpa [mks] using HO.out, World.grownBy.refl _ _, OwnKept.refl _⟩
    case round =>
      obtain ⟨j, hj, rfl, rfl, hown, hgr, hok⟩ := hrel
      have hlen : n = (mks k j ++ xs.drop j).length := by have := HN.out; simp [mks_length]; omega
      have HLN := Lib.hid hlen
      have HOW := Lib.hid hown
      have HGR := Lib.hid hgr
      have HOK := Lib.hid hok
      clear hlen hown hgr hok
      by_cases hlt : j < n
      · obtain ⟨c1, f1⟩ := HOW.out.at_ HLN.out hlt
        have HO1 : Hid (OwnI (wr.setCell ⟨g, j, none⟩ (.int .i64 (k + j))) B (.slice (some ⟨g, 0, none⟩) n cap) (mks k (j + 1) ++ xs.drop (j + 1))) := by
          have := HOW.out.put HLN.out (j := j) (k + j)
          rwa [mks_step k xs (by have := HN.out; omega)] at this
        go_wp2
        go_roundw
        case rel => exact ⟨j + 1, by omega, by go_num, by go_num, HO1.out, grown_put HGR.out _ _, HOK.out.put _ _ _⟩
        case measure => simp [intOf]; omega
      · obtain rfl : j = n := by omega
        go_wp2
        go_ret
        refine ⟨rfl, ?_, HGR.out, HOK.out⟩
        have := HOW.out
        rwa [List.drop_eq_nil_of_le (by have := HN.out; omega), List.append_nil] at this
  · obtain ⟨A, c, rfl⟩ := h.shape
    obtain rfl : xs = [] := List.length_eq_zero_iff.1 (by omega)
    have HO := Lib.hid h
    clear h
    go_enter Tryz.func19, Tryz.ntmps19
    simp only [List.length_nil] at *
    go_wp2
    go_loopw [1, 5] (fun vk vi wr => vi = .int .i64 0 ∧ vk = .int .i64 k ∧ wr = w) (fun _ _ _ => 0)
    case atStart => exact ⟨rfl, rfl, rfl⟩
    case round =>
      obtain ⟨rfl, rfl, rfl⟩ := hrel
      go_wp2
      go_ret
      exact ⟨by simp, by simpa [mks] using HO.out, World.grownBy.refl _ _, OwnKept.refl _⟩

set_option maxRecDepth 100000 in
set_option maxHeartbeats 1000000 in
theorem heldIntS_any (B : Nat) (v : Value) (k : Int) (n : Nat) (w : World) (h : OwnI w B v (mks k n)) (hn : n ≤ 4194304) (h0 : 0 ≤ k) (h1 : k ≤ 1125899906842624) :
    Calls Tryz.prog 20 #[v, .int .i64 k] w (RetQ w (.int .i64 (k + n))) := by
  have hr := h.ints
  obtain ⟨A, c, rfl, hnc, hm, hx⟩ := hr
  rw [mks_length] at *
  have HX := Lib.hid hx
  clear h hx hnc hm
  go_enter Tryz.func20, Tryz.ntmps20
  go_wp2
  go_loop [1, 5] (fun vk vi => ∃ j : Nat, j ≤ n ∧ vi = .int .i64 j ∧ vk = .int .i64 (k + j)) (fun _ vi => n - (intOf vi).toNat)
  case atStart => exact ⟨0, Nat.zero_le _, rfl, by simp⟩
  case round =>
    obtain ⟨j, hj, rfl, rfl⟩ := hrel
    by_cases hlt : j < n
    · obtain ⟨b, off, rfl, -, hc⟩ := HX.out (by omega)
      have h2 := hc j hlt
      rw [mks_get hlt] at h2
      have e1 : ((k + (j : Int)) != (k + (j : Int))) = false := by simp
      clear hc
      go_wp2
      go_round
      case rel => exact ⟨j + 1, by omega, by go_num, by go_num⟩
      case measure => simp [intOf]; omega
    · obtain rfl : j = n := by omega
      go_wp2
      go_ret
      exact ⟨rfl, rfl⟩

/-- a block of n pairs of ints -/
def PairShape (w : World) (g : Nat) (t : TypeId) (n : Nat) : Prop := ∃ F : Nat → Int, w.rowIs g t (n * 2) (fun i => .int .i64 (F i))
theorem PairRow.shape {w : World} {g : Nat} {t : TypeId} {es : List (Int × Int)} (h : PairRow w g t es) : PairShape w g t es.length :=
  ⟨fun i => if i % 2 = 0 then (gp es (i / 2)).1 else (gp es (i / 2)).2, World.rowIs.congr h fun i _ => by by_cases e : i % 2 = 0 <;> simp [e]⟩
theorem PairShape.set {w : World} {g : Nat} {t : TypeId} {n : Nat} (h : PairShape w g t n) (j : Nat) (q : Int) : PairShape (w.setCell ⟨g, j, none⟩ (.int .i64 q)) g t n := by
  obtain ⟨F, hF⟩ := h
  refine ⟨fun i => if i = j then q else F i, (hF.set j (.int .i64 q)).congr fun i _ => ?_⟩
  by_cases e : i = j <;> simp [e]
theorem PairShape.of_block {w w' : World} {g : Nat} {t : TypeId} {n : Nat} (h : PairShape w g t n) (hb : w'.heap[g]? = w.heap[g]?) : PairShape w' g t n := by
  obtain ⟨F, hF⟩ := h
  exact ⟨F, hF.of_block hb⟩

def RetPS (w : World) (g : Nat) (t : TypeId) (n : Nat) (k : Int) (e : Ending) (w' : World) : Prop :=
  e = .returned (.int .i64 (k + n * 2)) ∧ PairShape w' g t n ∧ w.grownBy w' (some g) ∧ w'.heap.size = w.heap.size

theorem size_set (w : World) (p : Addr) (u : Value) : (w.setCell p u).heap.size = w.heap.size := by simp [World.setCell]

set_option maxRecDepth 100000 in
set_option maxHeartbeats 1000000 in
theorem markEndS_any (g : Nat) (n c : Nat) (k : Int) (w : World) (h : PairShape w g 97 n) (hn : n ≤ 2097152) (h0 : 0 ≤ k) (h1 : k ≤ 1125899906842624) :
    Calls Tryz.prog 73 #[.slice (some ⟨g, 0, none⟩) n c, .int .i64 k] w (RetPS w g 97 n k) := by
  have HO := Lib.hid h
  clear h
  go_enter Tryz.func73, Tryz.ntmps73
  go_wp2
  go_loopw [1, 5] (fun vk vi wr => ∃ j : Nat, j ≤ n ∧ vi = .int .i64 j ∧ vk = .int .i64 (k + j * 2) ∧ PairShape wr g 97 n ∧ w.grownBy wr (some g) ∧ wr.heap.size = w.heap.size)
    (fun _ vi _ => n - (intOf vi).toNat)
  case atStart => exact ⟨0, Nat.zero_le _, rfl, by simp, HO.out, World.grownBy.refl _ _, rfl⟩
  case round =>
    obtain ⟨j, hj, rfl, rfl, hown, hgr, hsz⟩ := hrel
    have HOW := Lib.hid hown
    have HGR := Lib.hid hgr
    have HSZ := Lib.hid hsz
    clear hgr hsz
    by_cases hlt : j < n
    · obtain ⟨F, hF⟩ := hown
      have c1 := hF.cell (i := j * 2) (by omega)
      have f1 := hF.frozen (j * 2)
      have c2 := hF.cell (i := j * 2 + 1) (by omega)
      have f2 := hF.frozen (j * 2 + 1)
      clear hF
      go_wp2
      go_roundw
      case rel => exact ⟨j + 1, by omega, by go_num, by go_num, (HOW.out.set _ _).set _ _, grown_put (grown_put HGR.out _ _) _ _, by rw [size_set, size_set]; exact HSZ.out⟩
      case measure => simp [intOf]; omega
    · obtain rfl : j = n := by omega
      clear hown
      go_wp2
      go_ret
      exact ⟨rfl, HOW.out, HGR.out, HSZ.out⟩

/-- only blocks of the type t between B and C have turned -/
structure MarkedT (t : TypeId) (B C : Nat) (w w' : World) : Prop where
  os : w'.os = w.os
  tape : w'.tape = w.tape
  output : w'.output = w.output
  size : w'.heap.size = w.heap.size
  block : ∀ b, (∃ cs fr, w.heap[b]? = some (.cells cs t fr) ∧ B ≤ b ∧ b < C) ∨ w'.heap[b]? = w.heap[b]?
theorem MarkedT.refl (t : TypeId) (B C : Nat) (w : World) : MarkedT t B C w w := ⟨rfl, rfl, rfl, rfl, fun _ => .inr rfl⟩
theorem MarkedT.trans {t : TypeId} {B C : Nat} {a b c : World} (h : MarkedT t B C a b) (k : MarkedT t B C b c) : MarkedT t B C a c := by
  refine ⟨k.os.trans h.os, k.tape.trans h.tape, k.output.trans h.output, k.size.trans h.size, fun x => ?_⟩
  rcases h.block x with h1 | h1
  · exact .inl h1
  · rcases k.block x with ⟨cs, fr, h2, h3⟩ | h2
    · exact .inl ⟨cs, fr, h1 ▸ h2, h3⟩
    · exact .inr (h2.trans h1)
/-- only blocks between B and C have turned, and new ones were made -/
structure Marked (B C : Nat) (w w' : World) : Prop where
  os : w'.os = w.os
  tape : w'.tape = w.tape
  output : w'.output = w.output
  size : w.heap.size ≤ w'.heap.size
  block : ∀ b, b < w.heap.size → (B ≤ b ∧ b < C) ∨ w'.heap[b]? = w.heap[b]?
theorem Marked.refl (B C : Nat) (w : World) : Marked B C w w := ⟨rfl, rfl, rfl, Nat.le_refl _, fun _ _ => .inr rfl⟩
theorem Marked.trans {B C : Nat} {a b c : World} (h : Marked B C a b) (k : Marked B C b c) : Marked B C a c := by
  refine ⟨k.os.trans h.os, k.tape.trans h.tape, k.output.trans h.output, Nat.le_trans h.size k.size, fun x hx => ?_⟩
  rcases h.block x hx with h1 | h1
  · exact .inl h1
  · rcases k.block x (Nat.lt_of_lt_of_le hx h.size) with h2 | h2
    · exact .inl h2
    · exact .inr (h2.trans h1)
theorem MarkedT.m {t : TypeId} {B C : Nat} {w w' : World} (h : MarkedT t B C w w') : Marked B C w w' :=
  ⟨h.os, h.tape, h.output, Nat.le_of_eq h.size.symm, fun b _ => (h.block b).elim (fun ⟨_, _, _, h1, h2⟩ => .inl ⟨h1, h2⟩) .inr⟩
theorem Marked.of_grown {B C : Nat} {w w' : World} {row : Option Nat} (h : w.grownBy w' row) (hr : ∀ g, row = some g → B ≤ g ∧ g < C) : Marked B C w w' :=
  ⟨h.os, h.tape, h.output, h.size, fun b hb => by
    by_cases e : some b = row
    · exact .inl (hr b e.symm)
    · exact .inr (h.block b hb e)⟩
theorem Marked.of_below {B C : Nat} {w w' : World} (h : Below w.heap.size w w') : Marked B C w w' := ⟨h.os, h.tape, h.output, h.size, fun b hb => .inr (h.block b hb)⟩
theorem Marked.wider {B C B' C' : Nat} {w w' : World} (h : Marked B C w w') (h1 : B' ≤ B) (h2 : C ≤ C') : Marked B' C' w w' := ⟨h.os, h.tape, h.output, h.size, fun b hb => (h.block b hb).elim (fun k => .inl ⟨by omega, by omega⟩) .inr⟩
theorem Marked.below {B C D : Nat} {w w' : World} (h : Marked B C w w') (hd : D ≤ B) (hs : D ≤ w.heap.size) : Below D w w' :=
  ⟨h.os, h.tape, h.output, h.size, fun b hb => (h.block b (by omega)).elim (fun k => by omega) id⟩

theorem rowIs_type {w : World} {g : Nat} {t : TypeId} {n : Nat} {f : Nat → Value} (h : w.rowIs g t n f) : ∃ cs, w.heap[g]? = some (.cells cs t (0, 0)) := by
  obtain ⟨c, hc, _⟩ := h
  exact ⟨c, hc⟩

/-- what markEndSS gives -/
def RetMS (w : World) (B C : Nat) (k : Int) (e : Ending) (w' : World) : Prop :=
  ∃ r : Int, e = .returned (.int .i64 r) ∧ k ≤ r ∧ r ≤ k + 8796093022208 ∧ MarkedT 97 B C w w'

set_option maxRecDepth 100000 in
set_option maxHeartbeats 1000000 in
theorem markEndSS_any (B : Nat) (v : Value) (ess : List (List (Int × Int))) (k : Int) (w0 w : World) (h : OwnEE w0 B v ess) (hs : Short ess) (hb : Below w0.heap.size w0 w) (h0 : 0 ≤ k) (h1 : k ≤ 16777216) :
    Calls Tryz.prog 44 #[v, .int .i64 k] w (RetMS w B w0.heap.size k) := by
  obtain ⟨g, gs, rfl, hB, hrow, hp⟩ := h
  obtain ⟨hs1, hs2⟩ := hs
  have HROW := Lib.hid (hrow.of_block (hb.block _ hrow.lt))
  have HP : Hid (∀ i, i < ess.length → B ≤ gs i ∧ gs i < w0.heap.size ∧ PairShape w (gs i) 97 (gl ess i).length) := fun i hi => ⟨(hp i hi).1, (hp i hi).2.lt, (hp i hi).2.shape.of_block (hb.block _ (hp i hi).2.lt)⟩
  have HS2 := Lib.hid hs2
  have HBE := Lib.hid hb
  clear hrow hp hb hs2
  obtain ⟨n, hnn⟩ : ∃ n, n = ess.length := ⟨_, rfl⟩
  rw [← hnn] at hs1 HROW HP HS2 ⊢
  clear hnn
  go_enter Tryz.func44, Tryz.ntmps44
  go_wp2
  go_loopw [1, 5] (fun vk vi wr => ∃ (j : Nat) (r : Int), j ≤ n ∧ vi = .int .i64 j ∧ vk = .int .i64 r ∧ k ≤ r ∧ r ≤ k + j * 4194304 ∧ wr.rowIs g 89 n (fun i => .slice (some ⟨gs i, 0, none⟩) (gl ess i).length (gl ess i).length) ∧
      (∀ i, i < n → PairShape wr (gs i) 97 (gl ess i).length) ∧ MarkedT 97 B w0.heap.size w wr)
    (fun _ vi _ => n - (intOf vi).toNat)
  case atStart => exact ⟨0, k, Nat.zero_le _, rfl, rfl, by omega, by omega, HROW.out, fun i hi => (HP.out i hi).2.2, MarkedT.refl _ _ _ _⟩
  case round =>
    obtain ⟨j, r, hj, rfl, rfl, hr1, hr2, hrow, hps, hmk⟩ := hrel
    have HRW := Lib.hid hrow
    have HPS := Lib.hid hps
    have HMK := Lib.hid hmk
    clear hrow hps hmk
    by_cases hlt : j < n
    · have c1 := HRW.out.cell hlt
      have hl2 := HS2.out j hlt
      have CM := Lib.hid (markEndS_any (gs j) (gl ess j).length (gl ess j).length r wr (HPS.out j hlt) hl2 (by omega) (by omega))
      go_wp2_with fail
      refine CM.out.mono ?_
      rintro e w1 ⟨rfl, hps1, hgr1, hsz1⟩
      have hm1 : MarkedT 97 B w0.heap.size wr w1 := by
        refine ⟨hgr1.os, hgr1.tape, hgr1.output, hsz1, fun b => ?_⟩
        by_cases e : b = gs j
        · subst e
          obtain ⟨F, hF⟩ := HPS.out j hlt
          obtain ⟨cs, hcs⟩ := rowIs_type hF
          exact .inl ⟨cs, _, hcs, (HP.out j hlt).1, (HP.out j hlt).2.1⟩
        · by_cases hbs : b < wr.heap.size
          · exact .inr (hgr1.block b hbs (fun h => e (by simpa using h)))
          · exact .inr (by rw [Array.getElem?_eq_none (by omega), Array.getElem?_eq_none (by omega)])
      have HM := Lib.hid (HMK.out.trans hm1)
      have hg : w1.heap[g]? = wr.heap[g]? := by
        rcases hm1.block g with ⟨cs, fr, h3, _⟩ | h3
        · exfalso
          obtain ⟨cs', h4⟩ := rowIs_type HRW.out
          rw [h4] at h3
          simp at h3
        · exact h3
      have HRW' := Lib.hid (HRW.out.of_block hg)
      have HPS' : Hid (∀ i, i < n → PairShape w1 (gs i) 97 (gl ess i).length) := fun i hi => by
        by_cases e : gs i = gs j
        · rw [e]
          have a1 := HPS.out i hi
          rw [e] at a1
          obtain ⟨F, hF⟩ := a1
          obtain ⟨F', hF'⟩ := HPS.out j hlt
          obtain ⟨F1, hF1⟩ := hps1
          obtain ⟨c1, q1, s1, _⟩ := hF
          obtain ⟨c2, q2, s2, _⟩ := hF'
          rw [q1] at q2
          have : (gl ess i).length = (gl ess j).length := by
            cases q2; omega
          rw [this]; exact ⟨F1, hF1⟩
        · exact (HPS.out i hi).of_block (hgr1.block _ (by obtain ⟨F, hF⟩ := HPS.out i hi; exact hF.lt) (fun h => e (by simpa using h)))
      clear hps1 hgr1 hsz1 hm1 hg HRW HPS HMK c1 CM
      go_wp2_with fail
      go_roundw
      case rel => exact ⟨j + 1, r + (gl ess j).length * 2, by omega, by go_num, rfl, by omega, by omega, HRW'.out, HPS'.out, HM.out⟩
      case measure => simp [intOf]; omega
    · go_wp2
      go_ret
      exact ⟨r, rfl, hr1, by omega, HMK.out⟩
end Go.Proofs.YtjoimponfeofkaaGreat

namespace Go.Proofs.YtjoimponfeofkaaGreat
open Go.RowKit

theorem MarkedT.ownI {t : TypeId} {B C B' : Nat} {w w' : World} {v : Value} {xs : List Int} (h : MarkedT t B C w w') (ht : t ≠ 3) (ho : OwnI w B' v xs) : OwnI w' B' v xs := by
  refine ⟨ho.1, ?_⟩
  rcases ho.2 with h2 | ⟨g, cap, cur, rfl, hB, hg, hr⟩
  · exact .inl h2
  · refine .inr ⟨g, cap, cur, rfl, hB, ?_, hr⟩
    rcases h.block g with ⟨cs, fr, h3, _⟩ | h3
    · rw [hg] at h3
      simp at h3
      exact absurd h3.2.1.symm ht
    · exact h3.trans hg
theorem OwnI.lt {w : World} {B : Nat} {v : Value} {xs : List Int} (h : OwnI w B v xs) : ∀ g, v.ownBlock = some g → B ≤ g ∧ g < w.heap.size := fun g hg => World.ownsRow.lt h g hg

/-- what marking a network gives -/
def RetMN (w : World) (B C : Nat) (e : Ending) (w' : World) : Prop := ∃ r : Int, e = .returned (.int .i64 r) ∧ 0 ≤ r ∧ r ≤ 17592186044416 ∧ Marked B C w w'

set_option maxRecDepth 100000 in
set_option maxHeartbeats 1000000 in
theorem markNetwork_any (B : Nat) (v : Value) (N : Net) (k : Int) (w0 w : World) (h : OwnN w0 B v N) (hs : ShortN N) (hb : Below w0.heap.size w0 w) (h0 : 0 ≤ k) (h1 : k ≤ 16777216) :
    Calls Tryz.prog 18 #[v, .int .i64 k] w (RetMN w B w0.heap.size) := by
  obtain ⟨ve, vi, vn, rfl, he, hi, hn⟩ := h
  obtain ⟨hs1, hs2, hs3⟩ := hs
  obtain ⟨A0, c0, rfl⟩ := he.shape
  have HLI := Lib.hid hi.lt
  have HLN := Lib.hid hn.lt
  obtain ⟨A1, c1, rfl⟩ := hi.shape
  obtain ⟨A2, c2, rfl⟩ := hn.shape
  have hb0 : Below w0.heap.size w0 (w.alloc (Obj.cells #[.slice A0 N.ends.length c0, .slice A1 N.ids.length c1, .slice A2 N.inputs.length c2] 39)) := hb.alloc hb.size _
  have HI := Lib.hid (hi.below hb0)
  have HN := Lib.hid (hn.below hb0)
  have hk0 := Blk.new w 39 #[.slice A0 N.ends.length c0, .slice A1 N.ids.length c1, .slice A2 N.inputs.length c2]
  have HK0 := Lib.hid hk0
  have HSZ := Lib.hid hb.size
  have CE := Lib.hid (markEndSS_any B _ N.ends k w0 _ he hs1 hb0 h0 h1)
  have HB1 : Hid (Marked B w0.heap.size w (w.alloc (Obj.cells #[.slice A0 N.ends.length c0, .slice A1 N.ids.length c1, .slice A2 N.inputs.length c2] 39))) := Marked.of_below ((Below.refl _ _).alloc (Nat.le_refl _) _)
  clear he hi hn hb hb0 hk0 hs1
  go_enter Tryz.func18, Tryz.ntmps18
  go_wp2_with fail
  refine CE.out.mono ?_
  rintro e w1 ⟨r1, rfl, hr1, hr2, hm1⟩
  have HI1 := Lib.hid (hm1.ownI (by decide) HI.out)
  have HN1 := Lib.hid (hm1.ownI (by decide) HN.out)
  have HM1 := Lib.hid (HB1.out.trans hm1.m)
  have hk1 : Blk w1 w.heap.size 39 #[.slice A0 N.ends.length c0, .slice A1 N.ids.length c1, .slice A2 N.inputs.length c2] := by
    rcases hm1.block w.heap.size with ⟨_, _, _, _, h4⟩ | h4
    · exact absurd h4 (by have := HSZ.out; omega)
    · exact h4.trans HK0.out
  have HK1 := Lib.hid hk1
  have hc := hk1.cell
  clear hm1 hk1 CE HI HN HB1
  go_wp2_with fail
  clear hc
  refine (markIntS_any B _ N.ids r1 w1 HI1.out (by omega) (by omega) (by omega)).mono ?_
  rintro e w2 ⟨rfl, -, hgr2, hok2⟩
  obtain ⟨ys, hyl, hn2⟩ := hok2 _ _ _ HN1.out
  have HN2 := Lib.hid hn2
  have HYL := Lib.hid hyl
  have hm2 : Marked B w0.heap.size w1 w2 := Marked.of_grown hgr2 HLI.out
  have HM2 := Lib.hid (HM1.out.trans hm2)
  have hk2 : Blk w2 w.heap.size 39 #[.slice A0 N.ends.length c0, .slice A1 N.ids.length c1, .slice A2 N.inputs.length c2] := by
    rcases hm2.block w.heap.size HK1.out.lt with ⟨_, h4⟩ | h4
    · exact absurd h4 (by have := HSZ.out; omega)
    · exact h4.trans HK1.out
  have hc := hk2.cell
  clear hgr2 hok2 hyl hn2 hm2 hk2 HM1 HI1 HN1
  go_wp2_with fail
  clear hc
  refine (markIntS_any B _ ys (r1 + N.ids.length) w2 HN2.out (by have := HYL.out; omega) (by omega) (by omega)).mono ?_
  rintro e w3 ⟨rfl, -, hgr3, -⟩
  have HM3 := Lib.hid (HM2.out.trans (Marked.of_grown hgr3 HLN.out))
  clear hgr3 HM2
  go_wp2_with fail
  go_ret
  exact ⟨_, rfl, by omega, by have := HYL.out; omega, HM3.out⟩
end Go.Proofs.YtjoimponfeofkaaGreat

namespace Go.Proofs.YtjoimponfeofkaaGreat
open Go.RowKit

set_option maxHeartbeats 400000 in
theorem toRow_any (s : ByteArray) (o : Int) (w : World) :
    Calls Tryz.prog 62 #[.agg #[.string s, .int .i64 o]] w (RetV w (.agg #[.string s, .int .i64 o])) := by
  go_enter Tryz.func62, Tryz.ntmps62
  go_wp2
  refine bodyPost_ret (v := .agg #[.string s, .int .i64 o]) (by simp [results, Tryz.results62, go_sem]) rfl ⟨rfl, ?_⟩
  exact (((Below.refl _ _).alloc (Nat.le_refl _) _).alloc (by simp) _).alloc (by simp; omega) _

theorem row_info : (Tryz.prog.info? 76).map (fun i => (i.zero, i.size, i.bytes)) = some (some (.agg #[.string ByteArray.empty, .int .i64 0]), 2, 24) := by kernel_rfl

/-- block g is the rows, and may be written -/
def RowRow (w : World) (g : Nat) (t : TypeId) (rs : List RowT) : Prop :=
  w.rowIs g t (rs.length * 2) (fun i => if i % 2 = 0 then .string (ga rs (i / 2)).1 else .int .i64 (ga rs (i / 2)).2)
theorem RowRow.own {w : World} {g : Nat} {t : TypeId} {rs : List RowT} {B : Nat} (h : RowRow w g t rs) (hm : rs.length ≤ maxLen) (hB : B ≤ g) : OwnG encR t w B (.slice (some ⟨g, 0, none⟩) rs.length rs.length) rs := by
  obtain ⟨c, hc, hs, hf⟩ := h
  refine ⟨encR.cells_length rs, .inr ⟨g, rs.length, c, rfl, hB, hc, Nat.le_refl _, hm, by rw [hs]; rfl, ?_⟩⟩
  apply List.ext_getElem?
  intro i
  have hk : encR.k = 2 := rfl
  by_cases hi : i < rs.length * 2
  · rw [List.getElem?_take_of_lt (by rw [hk]; exact hi)]
    have h1 := encR.cells_get (xs := rs) (j := i / 2) (i := i % 2) (by omega) (by rw [hk]; omega)
    rw [hk, show i / 2 * 2 + i % 2 = i by omega] at h1
    rw [h1]
    have h2 := hf i hi
    rw [Array.getElem?_toList, h2]
    rcases Nat.mod_two_eq_zero_or_one i with h | h <;> simp [h, encR]
  · rw [List.getElem?_eq_none (by simp [hk]; omega), List.getElem?_eq_none (by rw [encR.cells_length, hk]; omega)]
theorem rowIs_madeRows (w : World) (n : Nat) (t : TypeId) : (w.alloc (.cells (madeCells #[.string ByteArray.empty, .int .i64 0] (n * 2)) t)).rowIs w.heap.size t (n * 2) (fun i => if i % 2 = 0 then .string ByteArray.empty else .int .i64 0) := by
  have := World.rowIs_alloc w (madeCells #[.string ByteArray.empty, .int .i64 0] (n * 2)) t (fun i => if i % 2 = 0 then .string ByteArray.empty else .int .i64 0) (by
    intro i hi
    have hi' : i < n * 2 := by simpa [madeCells] using hi
    rcases Nat.mod_two_eq_zero_or_one i with h | h <;> simp [madeCells, hi', h])
  simpa [madeCells] using this

/-- a slice of rows that the call has made -/
def RetRw (w : World) (rs : List RowT) (e : Ending) (w' : World) : Prop :=
  ∃ A c, e = .returned (.slice A rs.length c) ∧ OwnG encR 76 w' w.heap.size (.slice A rs.length c) rs ∧ Below w.heap.size w w'

set_option maxRecDepth 100000 in
set_option maxHeartbeats 1000000 in
theorem toRowS_any {S : Nat → Prop} (v : Value) (xs : List RowT) (w : World) (h : SlR encR w S v xs) (hn : xs.length ≤ 2097152) :
    Calls Tryz.prog 36 #[v] w (RetRw w xs) := by
  obtain ⟨A, c, rfl, hnc, hm, hx⟩ := h
  have HX := Lib.hid hx
  clear hx
  have hmk := fun W => run_make_rowN (P := Tryz.prog) 33 76 (.agg #[.string ByteArray.empty, .int .i64 0]) 2 24 Tryz.underlying33 row_info .i64 .i64 xs.length (by omega) (by omega) W
  simp only [Value.cells] at hmk
  go_enter Tryz.func36, Tryz.ntmps36
  go_wp2
  go_loopw [4] (fun i wr => ∃ k : Nat, k ≤ xs.length ∧ i = .int .i64 k ∧ wr.rowIs w.heap.size 76 (xs.length * 2) (fun i => if i < k * 2 then (if i % 2 = 0 then .string (ga xs (i / 2)).1 else .int .i64 (ga xs (i / 2)).2) else (if i % 2 = 0 then .string ByteArray.empty else .int .i64 0)) ∧ Below w.heap.size w wr)
    (fun i _ => xs.length - (intOf i).toNat)
  case atStart =>
    refine ⟨0, Nat.zero_le _, rfl, ?_, (Below.refl _ _).alloc (Nat.le_refl _) _⟩
    simpa using rowIs_madeRows w xs.length 76
  case round =>
    obtain ⟨k, hk, rfl, hrow, hbel⟩ := hrel
    by_cases hlt : k < xs.length
    · obtain ⟨b, off, rfl, -, hlb, hc⟩ := HX.out (by omega)
      have hc0 := hc k hlt 0 (by decide)
      have hc1 := hc k hlt 1 (by decide)
      have hcell : wr.cell? ⟨b, off + k * 2, none⟩ = some (.string (ga xs k).1) := by rw [hbel.cell (by exact hlb)]; simpa [encR] using hc0
      have hcell' : wr.cell? ⟨b, off + k * 2 + 1, none⟩ = some (.int .i64 (ga xs k).2) := by rw [hbel.cell (by exact hlb)]; simpa [encR] using hc1
      have HR := Lib.hid hrow
      have HB := Lib.hid hbel
      clear hbel hc hc0 hc1 hmk hrow
      go_wp2_with fail
      refine (toRow_any _ _ _).mono ?_
      rintro e w1 ⟨rfl, hb1⟩
      have HB1 := Lib.hid (Below.thenB HB.out hb1 HB.out.size)
      have hrow1 : w1.rowIs w.heap.size 76 (xs.length * 2) _ := HR.out.of_block (hb1.block _ HR.out.lt)
      have hc2 := hrow1.cell (i := k * 2) (by omega)
      have hc3 := hrow1.cell (i := k * 2 + 1) (by omega)
      have hf2 := hrow1.frozen (k * 2)
      have hf3 := hrow1.frozen (k * 2 + 1)
      have hrow2 := (hrow1.set (k * 2) (.string (ga xs k).1)).set (k * 2 + 1) (.int .i64 (ga xs k).2)
      have HH := Lib.hid hrow2
      simp only [show ¬ k * 2 < k * 2 by omega, show ¬ k * 2 + 1 < k * 2 by omega, show k * 2 % 2 = 0 by omega, show ¬ (k * 2 + 1) % 2 = 0 by omega, if_false, if_true] at hc2 hc3
      clear hrow2 hrow1 hb1
      go_wp2
      have HB2 := Lib.hid ((HB1.out.setCell (p := ⟨w.heap.size, k * 2, none⟩) (Nat.le_refl _) (.string (ga xs k).1)).setCell (p := ⟨w.heap.size, k * 2 + 1, none⟩) (Nat.le_refl _) (.int .i64 (ga xs k).2))
      go_roundw
      case rel =>
        refine ⟨k + 1, by omega, by go_num, HH.out.congr fun i hi => ?_, HB2.out⟩
        by_cases h1 : i = k * 2 + 1
        · subst h1
          simp [show (k * 2 + 1) % 2 = 1 by omega, show (k * 2 + 1) / 2 = k by omega, show k * 2 + 1 < (k + 1) * 2 by omega]
        · by_cases h2 : i = k * 2
          · subst h2
            simp [show k * 2 < (k + 1) * 2 by omega]
          · by_cases h3 : i < k * 2
            · simp [h1, h2, h3, show i < (k + 1) * 2 by omega]
            · simp [h1, h2, h3, show ¬ i < (k + 1) * 2 by omega]
      case measure => simp [intOf]; omega
    · go_wp2
      go_ret
      exact ⟨_, _, rfl, RowRow.own (hrow.congr fun i hi => by simp [show i < k * 2 by omega]) (by unfold maxLen; omega) (Nat.le_refl _), hbel⟩

set_option maxRecDepth 100000 in
set_option maxHeartbeats 800000 in
theorem toTable_any {S : Nat → Prop} (v : Value) (D : Int) (xs : List RowT) (w : World) (h : SlR encR w S v xs) (hn : xs.length ≤ 2097152) :
    Calls Tryz.prog 11 #[.agg #[.int .i64 D, v]] w fun e w' => ∃ A c, e = .returned (.agg #[.int .i64 D, .slice A xs.length c]) ∧ OwnG encR 76 w' w.heap.size (.slice A xs.length c) xs ∧ Below w.heap.size w w' := by
  have HR := Lib.hid h
  obtain ⟨A, c, rfl, hnc, hm, hx⟩ := h
  clear hx
  have HB0 := Lib.hid ((Below.refl w.heap.size w).alloc (Nat.le_refl _) (.cells #[.int .i64 D, .slice A xs.length c] 24))
  go_enter Tryz.func11, Tryz.ntmps11
  go_wp2_with fail
  have HB0' := Lib.hid ((((Below.refl w.heap.size w).alloc (Nat.le_refl _) (.cells #[.int .i64 D, .slice A xs.length c] 24)).alloc (by simp) (.cells #[.int .i64 0, .slice none 0 0] 35)).alloc (by simp; omega) (.cells #[.int .i64 D, .slice none 0 0] 35))
  have HK1 : Hid (Blk (((w.alloc (.cells #[.int .i64 D, .slice A xs.length c] 24)).alloc (.cells #[.int .i64 0, .slice none 0 0] 35)).alloc (.cells #[.int .i64 D, .slice none 0 0] 35)) (w.heap.size + 1) 35 #[.int .i64 0, .slice none 0 0]) := Lib.hid (by
    refine Blk.alloc ?_ _
    have := Blk.new (w.alloc (.cells #[.int .i64 D, .slice A xs.length c] 24)) 35 #[.int .i64 0, .slice none 0 0]
    simpa using this)
  have HK2 : Hid (Blk (((w.alloc (.cells #[.int .i64 D, .slice A xs.length c] 24)).alloc (.cells #[.int .i64 0, .slice none 0 0] 35)).alloc (.cells #[.int .i64 D, .slice none 0 0] 35)) (w.heap.size + 1 + 1) 35 #[.int .i64 D, .slice none 0 0]) := Lib.hid (by
    have := Blk.new ((w.alloc (.cells #[.int .i64 D, .slice A xs.length c] 24)).alloc (.cells #[.int .i64 0, .slice none 0 0] 35)) 35 #[.int .i64 D, .slice none 0 0]
    simpa using this)
  have hsz : w.heap.size + 3 = (((w.alloc (.cells #[.int .i64 D, .slice A xs.length c] 24)).alloc (.cells #[.int .i64 0, .slice none 0 0] 35)).alloc (.cells #[.int .i64 D, .slice none 0 0] 35)).heap.size := by simp
  have HSZ := Lib.hid hsz
  clear hsz
  generalize (((w.alloc (.cells #[.int .i64 D, .slice A xs.length c] 24)).alloc (.cells #[.int .i64 0, .slice none 0 0] 35)).alloc (.cells #[.int .i64 D, .slice none 0 0] 35)) = w3 at *
  refine (toRowS_any _ xs w3 (HR.out.below HB0'.out) hn).mono ?_
  rintro e w4 ⟨A4, c4, rfl, ho4, hb4⟩
  have HO4 := Lib.hid ho4
  have hk1 := HK1.out.below hb4
  have hk2 := HK2.out.below hb4
  have HB4 := Lib.hid (Below.then_ HB0'.out hb4)
  have kc1 := hk1.cell
  have kf1 := hk1.free
  have kc2 := hk2.cell
  have kf2 := hk2.free
  have hlt : w.heap.size + 1 < w4.heap.size := hk1.lt
  have hcR := (((hk1.far (p := ⟨w.heap.size + 1 + 1, 1, none⟩) (by simp) (.slice A4 xs.length c4)).put 0 (.int .i64 D)).put 1 (.slice A4 xs.length c4)).cell
  have hcS := (hk2.put 1 (.slice A4 xs.length c4)).cell
  have hcT := (hk1.far (p := ⟨w.heap.size + 1 + 1, 1, none⟩) (by simp) (.slice A4 xs.length c4)).cell
  have hcU := (hk1.far (p := ⟨w.heap.size + 1 + 1, 1, none⟩) (by simp) (.slice A4 xs.length c4)).free
  clear ho4 hb4 hk1 hk2
  go_wp2_with fail
  refine bodyPost_ret (v := .agg #[.int .i64 D, .slice A4 xs.length c4]) (by simp [results, Tryz.results11, go_sem, hcR]) rfl ?_
  exact ⟨A4, c4, rfl, ((HO4.out.mono (by have := HSZ.out; omega)).keepB (fun b hb => by
    have := HO4.out.lt b hb
    have h3 := HSZ.out
    repeat rw [Below.heap_setCell _ _ _ _ (by simp; omega)])), ((HB4.out.setCell (by simp; omega) _).setCell (by simp) _).setCell (by simp) _⟩

set_option maxRecDepth 100000 in
set_option maxHeartbeats 800000 in
theorem eqRow_same (s : ByteArray) (o : Int) (w : World) :
    Calls Tryz.prog 70 #[.agg #[.string s, .int .i64 o], .agg #[.string s, .int .i64 o]] w (RetV w (.bool true)) := by
  have e1 : (o != o) = false := by simp
  go_enter Tryz.func70, Tryz.ntmps70
  go_wp2
  go_ret
  exact ⟨rfl, ((Below.refl _ _).alloc (Nat.le_refl _) _).alloc (by simp) _⟩

set_option maxRecDepth 100000 in
set_option maxHeartbeats 800000 in
theorem eqRowS_same {S S' : Nat → Prop} (v u : Value) (xs : List RowT) (w : World) (h : SlR encR w S v xs) (h' : SlR encR w S' u xs) :
    Calls Tryz.prog 41 #[v, u] w (RetV w (.bool true)) := by
  obtain ⟨A, c, rfl, hnc, hm, hx⟩ := h
  obtain ⟨A', c', rfl, hnc', hm', hx'⟩ := h'
  unfold maxLen at hm hm'
  have HX := Lib.hid hx
  have HX' := Lib.hid hx'
  clear hx hx'
  have e1 : (((xs.length : Nat) : Int) != ((xs.length : Nat) : Int)) = false := by simp
  go_enter Tryz.func41, Tryz.ntmps41
  go_wp2
  go_loopw [5] (fun i wr => ∃ k : Nat, k ≤ xs.length ∧ i = .int .i64 k ∧ Below w.heap.size w wr) (fun i _ => xs.length - (intOf i).toNat)
  case atStart => exact ⟨0, Nat.zero_le _, rfl, Below.refl _ _⟩
  case round =>
    obtain ⟨k, hk, rfl, hbel⟩ := hrel
    by_cases hlt : k < xs.length
    · obtain ⟨b, off, rfl, -, hlb, hc⟩ := HX.out (by omega)
      obtain ⟨b', off', rfl, -, hlb', hc'⟩ := HX'.out (by omega)
      have h1 : wr.cell? ⟨b, off + k * 2, none⟩ = some (.string (ga xs k).1) := by rw [hbel.cell (by exact hlb)]; simpa [encR] using hc k hlt 0 (by decide)
      have h2 : wr.cell? ⟨b, off + k * 2 + 1, none⟩ = some (.int .i64 (ga xs k).2) := by rw [hbel.cell (by exact hlb)]; simpa [encR] using hc k hlt 1 (by decide)
      have h3 : wr.cell? ⟨b', off' + k * 2, none⟩ = some (.string (ga xs k).1) := by rw [hbel.cell (by exact hlb')]; simpa [encR] using hc' k hlt 0 (by decide)
      have h4 : wr.cell? ⟨b', off' + k * 2 + 1, none⟩ = some (.int .i64 (ga xs k).2) := by rw [hbel.cell (by exact hlb')]; simpa [encR] using hc' k hlt 1 (by decide)
      have i1 : (0 : Int) ≤ (k : Int) := by omega
      have i2 : (k : Int) < (xs.length : Int) := by omega
      have HB := Lib.hid hbel.drew
      clear hc hc' hbel
      go_wp2
      go_still_tail 8, (by kernel_rfl)
      change wpList _ _ _ _ _ wr.drew
      generalize wr.drew = w2 at HB ⊢
      go_wp2_with (go_at_call 70; refine (eqRow_same _ _ _).mono ?_; rintro e w3 ⟨rfl, hb3⟩; have HB3 := Lib.hid (Below.thenB HB.out hb3 HB.out.size); clear hb3)
      go_roundw
      case rel => exact ⟨k + 1, by omega, by go_num, HB3.out⟩
      case measure => simp [intOf]; omega
    · go_wp2
      go_ret
      exact ⟨rfl, hbel⟩

set_option maxRecDepth 100000 in
set_option maxHeartbeats 800000 in
theorem eqTable_same {S S' : Nat → Prop} (v u : Value) (D : Int) (xs : List RowT) (w : World) (h : SlR encR w S v xs) (h' : SlR encR w S' u xs) :
    Calls Tryz.prog 15 #[.agg #[.int .i64 D, v], .agg #[.int .i64 D, u]] w (RetV w (.bool true)) := by
  have HR := Lib.hid h
  have HR' := Lib.hid h'
  obtain ⟨A, c, rfl, hnc, hm, hx⟩ := h
  obtain ⟨A', c', rfl, hnc', hm', hx'⟩ := h'
  clear hx hx'
  have e1 : (D != D) = false := by simp
  have HB0 := Lib.hid (((Below.refl w.heap.size w).alloc (Nat.le_refl _) (.cells #[.int .i64 D, .slice A xs.length c] 35)).alloc (by simp) (.cells #[.int .i64 D, .slice A' xs.length c'] 35))
  go_enter Tryz.func15, Tryz.ntmps15
  go_wp2_with fail
  refine (eqRowS_same _ _ xs _ (HR.out.below HB0.out) (HR'.out.below HB0.out)).mono ?_
  rintro e w1 ⟨rfl, hb1⟩
  have HB1 := Lib.hid (Below.then_ HB0.out hb1)
  clear hb1
  go_wp2_with fail
  go_ret
  exact ⟨rfl, HB1.out⟩
end Go.Proofs.YtjoimponfeofkaaGreat
