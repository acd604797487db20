/- The statements' own helpers: copying pairs, slices of them, networks. -/
import Derived.Test.YtclkboemgneojaaLh3
namespace Go.Proofs.Ytclkboemgneojaa
open Go.RowKit

set_option maxHeartbeats 400000 in
theorem toEnd_any (a b : Int) (w : World) :
    Calls Try.prog 190 #[.agg #[.int .i64 a, .int .i64 b]] w (RetV w (.agg #[.int .i64 a, .int .i64 b])) := by
  go_enter Try.func190, Try.ntmps190
  go_wp2
  refine bodyPost_ret (v := .agg #[.int .i64 a, .int .i64 b]) (by simp [results, Try.results190, go_sem]) rfl ⟨rfl, ?_⟩
  exact (((Below.refl _ _).alloc (Nat.le_refl _) _).alloc (by simp) _).alloc (by simp; omega) _

theorem end_info : (Try.prog.info? 48).map (fun i => (i.zero, i.size, i.bytes)) = some (some (.agg #[.int .i64 0, .int .i64 0]), 2, 16) := by kernel_rfl
theorem ends_info : (Try.prog.info? 46).map (fun i => (i.zero, i.size, i.bytes)) = some (some (.slice none 0 0), 1, 24) := by kernel_rfl

/-- block g is the pairs es, and may be written -/
def PairRow (w : World) (g : Nat) (t : TypeId) (es : List (Int × Int)) : Prop :=
  w.rowIs g t (es.length * 2) (fun i => if i % 2 = 0 then .int .i64 (gp es (i / 2)).1 else .int .i64 (gp es (i / 2)).2)

theorem PairRow.ends {w : World} {g : Nat} {t : TypeId} {es : List (Int × Int)} {S : Nat → Prop} (h : PairRow w g t es) (hm : es.length ≤ maxLen) (hS : S g) : EndsR w S (.slice (some ⟨g, 0, none⟩) es.length es.length) es := by
  refine ⟨_, _, rfl, Nat.le_refl _, hm, fun _ => ⟨g, 0, rfl, hS, fun j hj => ?_⟩⟩
  have h1 := World.rowIs.cell h (i := j * 2) (by omega)
  have h2 := World.rowIs.cell h (i := j * 2 + 1) (by omega)
  simp only [show (j * 2) % 2 = 0 by omega, show (j * 2) / 2 = j by omega, show (j * 2 + 1) % 2 = 1 by omega, show (j * 2 + 1) / 2 = j by omega] at h1 h2
  refine ⟨?_, ?_⟩
  · rw [Nat.zero_add, h1]; simp
  · rw [Nat.zero_add, h2]; simp

theorem rowIs_madePairs (w : World) (n : Nat) (t : TypeId) : (w.alloc (.cells (madeCells #[.int .i64 0, .int .i64 0] (n * 2)) t)).rowIs w.heap.size t (n * 2) (fun _ => .int .i64 0) := by
  have := World.rowIs_alloc w (madeCells #[.int .i64 0, .int .i64 0] (n * 2)) t (fun _ => .int .i64 0) (by
    intro i hi
    have hi' : i < n * 2 := by simpa [madeCells] using hi
    rcases Nat.mod_two_eq_zero_or_one i with h | h <;> simp [madeCells, hi', h])
  simpa [madeCells] using this

theorem run_make_rowN {P : Program} (t e : TypeId) (z : Value) (sz bytes : Nat) (ht : P.underlying t = some (.slice e)) (hinfo : (P.info? e).map (fun i => (i.zero, i.size, i.bytes)) = some (some z, sz, bytes))
    (kl kc : IntKind) (n : Nat) (hbytes : bytes * n ≤ 281474976710656) (h63 : n ≤ 9223372036854775807) (w : World) :
    (Instr.makeSlice t (.int kl (n : Int)) (.int kc (n : Int))).run P w = .ok (.slice (some ⟨w.heap.size, 0, none⟩) n n) (w.alloc (.cells (madeCells z.cells (n * sz)) e)) := by
  obtain ⟨i, hi, hz, hs, hb⟩ := info_parts hinfo
  have hb' : (i.bytes : Int) * (n : Int) ≤ 281474976710656 := by
    have h : ((i.bytes * n : Nat) : Int) ≤ 281474976710656 := by rw [hb]; omega
    rwa [Int.natCast_mul] at h
  have hr := run_make (P := P) w t e i z ht hi hz kl kc n n (by omega) (by omega) hb' (by omega)
  simp only [Int.toNat_natCast, hs] at hr
  exact hr

/-- a slice of pairs that the call has made -/
def RetE (w : World) (t : TypeId) (es : List (Int × Int)) (e : Ending) (w' : World) : Prop :=
  ∃ g, e = .returned (.slice (some ⟨g, 0, none⟩) es.length es.length) ∧ w.heap.size ≤ g ∧ PairRow w' g t es ∧ Below w.heap.size w w'

set_option maxRecDepth 100000 in
set_option maxHeartbeats 800000 in
theorem toEndS_any {S : Nat → Prop} (v : Value) (xs : List (Int × Int)) (w : World) (h : EndsR w S v xs) (hn : xs.length ≤ 2097152) :
    Calls Try.prog 160 #[v] w (RetE w 48 xs) := by
  obtain ⟨A, c, rfl, hnc, hm, hx⟩ := h
  have HX := Lib.hid hx
  clear hx
  have hmk := fun W => run_make_rowN (P := Try.prog) 46 48 (.agg #[.int .i64 0, .int .i64 0]) 2 16 Try.underlying46 end_info .i64 .i64 xs.length (by omega) (by omega) W
  simp only [Value.cells] at hmk
  go_enter Try.func160, Try.ntmps160
  go_wp2
  go_loopw [4] (fun i wr => ∃ k : Nat, k ≤ xs.length ∧ i = .int .i64 k ∧ wr.rowIs w.heap.size 48 (xs.length * 2) (fun i => if i < k * 2 then (if i % 2 = 0 then .int .i64 (gp xs (i / 2)).1 else .int .i64 (gp xs (i / 2)).2) else .int .i64 0) ∧ Below w.heap.size w wr)
    (fun i _ => xs.length - (intOf i).toNat)
  case atStart =>
    refine ⟨0, Nat.zero_le _, rfl, ?_, (Below.refl _ _).alloc (Nat.le_refl _) _⟩
    simpa using rowIs_madePairs w xs.length 48
  case round =>
    obtain ⟨k, hk, rfl, hrow, hbel⟩ := hrel
    by_cases hlt : k < xs.length
    · obtain ⟨b, off, rfl, -, hc⟩ := HX.out (by omega)
      have hlb := lt_of_cell (hc k hlt).1
      have hcell : wr.cell? ⟨b, off + k * 2, none⟩ = some (.int .i64 (gp xs k).1) := by rw [hbel.cell (by exact hlb)]; exact (hc k hlt).1
      have hcell' : wr.cell? ⟨b, off + k * 2 + 1, none⟩ = some (.int .i64 (gp xs k).2) := by rw [hbel.cell (by exact hlb)]; exact (hc k hlt).2
      have HR := Lib.hid hrow
      have HB := Lib.hid hbel
      clear hbel hc hmk hrow
      go_wp2_with fail
      refine (toEnd_any _ _ _).mono ?_
      rintro e w1 ⟨rfl, hb1⟩
      have HB1 := Lib.hid (Below.thenB HB.out hb1 HB.out.size)
      have hrow1 : w1.rowIs w.heap.size 48 (xs.length * 2) _ := HR.out.of_block (hb1.block _ HR.out.lt)
      have hc2 := hrow1.cell (i := k * 2) (by omega)
      have hc3 := hrow1.cell (i := k * 2 + 1) (by omega)
      have hf2 := hrow1.frozen (k * 2)
      have hf3 := hrow1.frozen (k * 2 + 1)
      have hrow2 := (hrow1.set (k * 2) (.int .i64 (gp xs k).1)).set (k * 2 + 1) (.int .i64 (gp xs k).2)
      have HH := Lib.hid hrow2
      clear hrow2 hrow1 hb1
      go_wp2
      have HB2 := Lib.hid ((HB1.out.setCell (p := ⟨w.heap.size, k * 2, none⟩) (Nat.le_refl _) (.int .i64 (gp xs k).1)).setCell (p := ⟨w.heap.size, k * 2 + 1, none⟩) (Nat.le_refl _) (.int .i64 (gp xs k).2))
      go_roundw
      case rel =>
        refine ⟨k + 1, by omega, by go_num, HH.out.congr fun i hi => ?_, HB2.out⟩
        by_cases h1 : i = k * 2 + 1
        · subst h1
          simp [show (k * 2 + 1) % 2 = 1 by omega, show (k * 2 + 1) / 2 = k by omega, show k * 2 + 1 < (k + 1) * 2 by omega]
        · by_cases h2 : i = k * 2
          · subst h2
            simp [show k * 2 < (k + 1) * 2 by omega]
          · by_cases h3 : i < k * 2
            · simp [h1, h2, h3, show i < (k + 1) * 2 by omega]
            · simp [h1, h2, h3, show ¬ i < (k + 1) * 2 by omega]
      case measure => simp [intOf]; omega
    · go_wp2
      go_ret
      exact ⟨_, rfl, Nat.le_refl _, hrow.congr fun i hi => by simp [show i < k * 2 by omega], hbel⟩

/-- slices of pairs, each in a block of its own, in a block of slices: all from B on -/
def OwnEE (w : World) (B : Nat) (v : Value) (ess : List (List (Int × Int))) : Prop :=
  ∃ (g : Nat) (gs : Nat → Nat), v = .slice (some ⟨g, 0, none⟩) ess.length ess.length ∧ B ≤ g ∧
    w.rowIs g 46 ess.length (fun i => .slice (some ⟨gs i, 0, none⟩) (gl ess i).length (gl ess i).length) ∧
    ∀ i, i < ess.length → B ≤ gs i ∧ PairRow w (gs i) 48 (gl ess i)

theorem PairRow.lt {w : World} {g : Nat} {t : TypeId} {es : List (Int × Int)} (h : PairRow w g t es) : g < w.heap.size := World.rowIs.lt h

theorem OwnEE.ends {w : World} {B : Nat} {v : Value} {ess : List (List (Int × Int))} (h : OwnEE w B v ess) (hm : ess.length ≤ maxLen) (hm' : ∀ i, i < ess.length → (gl ess i).length ≤ maxLen) : EndSSR w (fun b => B ≤ b) v ess := by
  obtain ⟨g, gs, rfl, hB, hrow, hp⟩ := h
  refine ⟨_, _, rfl, Nat.le_refl _, hm, fun _ => ⟨g, 0, rfl, hB, fun j hj => ⟨_, ?_, (hp j hj).2.ends (hm' j hj) (hp j hj).1⟩⟩⟩
  rw [Nat.zero_add]
  exact hrow.cell hj
theorem OwnEE.below {w w' : World} {B : Nat} {v : Value} {ess : List (List (Int × Int))} (h : OwnEE w B v ess) (hb : Below w.heap.size w w') : OwnEE w' B v ess := by
  obtain ⟨g, gs, rfl, hB, hrow, hp⟩ := h
  exact ⟨g, gs, rfl, hB, hrow.of_block (hb.block _ hrow.lt), fun i hi => ⟨(hp i hi).1, World.rowIs.of_block (hp i hi).2 (hb.block _ (hp i hi).2.lt)⟩⟩
theorem OwnEE.keepB {w w' : World} {B : Nat} {v : Value} {ess : List (List (Int × Int))} (h : OwnEE w B v ess) (hk : ∀ b, B ≤ b → b < w.heap.size → w'.heap[b]? = w.heap[b]?) : OwnEE w' B v ess := by
  obtain ⟨g, gs, rfl, hB, hrow, hp⟩ := h
  exact ⟨g, gs, rfl, hB, hrow.of_block (hk _ hB hrow.lt), fun i hi => ⟨(hp i hi).1, World.rowIs.of_block (hp i hi).2 (hk _ (hp i hi).1 (hp i hi).2.lt)⟩⟩
theorem OwnEE.far {w : World} {B : Nat} {v : Value} {ess : List (List (Int × Int))} (h : OwnEE w B v ess) {p : Addr} (hp : p.block < B) (u : Value) : OwnEE (w.setCell p u) B v ess :=
  h.keepB fun b hb _ => Below.heap_setCell w p u b (by omega)
theorem OwnEE.shape {w : World} {B : Nat} {v : Value} {ess : List (List (Int × Int))} (h : OwnEE w B v ess) : ∃ A c, v = .slice A ess.length c := by
  obtain ⟨g, gs, rfl, _⟩ := h
  exact ⟨_, _, rfl⟩
theorem OwnEE.mono {w : World} {B B' : Nat} {v : Value} {ess : List (List (Int × Int))} (h : OwnEE w B v ess) (hb : B' ≤ B) : OwnEE w B' v ess := by
  obtain ⟨g, gs, rfl, hB, hrow, hp⟩ := h
  exact ⟨g, gs, rfl, by omega, hrow, fun i hi => ⟨by have := (hp i hi).1; omega, (hp i hi).2⟩⟩

def RetEE (w : World) (ess : List (List (Int × Int))) (e : Ending) (w' : World) : Prop :=
  ∃ v, e = .returned v ∧ OwnEE w' w.heap.size v ess ∧ Below w.heap.size w w'

/-- all parts of a list of lists are short -/
def Short (ess : List (List (Int × Int))) : Prop := ess.length ≤ 2097152 ∧ ∀ i, i < ess.length → (gl ess i).length ≤ 2097152

set_option maxRecDepth 100000 in
set_option maxHeartbeats 800000 in
theorem toEndSS_any {S : Nat → Prop} (v : Value) (xs : List (List (Int × Int))) (w : World) (h : EndSSR w S v xs) (hn : Short xs) :
    Calls Try.prog 113 #[v] w (RetEE w xs) := by
  obtain ⟨A, c, rfl, hnc, hm, hx⟩ := h
  have HX := Lib.hid hx
  obtain ⟨hn, hs⟩ := hn
  have HS := Lib.hid hs
  clear hx hs
  have hmk := fun W => run_make_rowN (P := Try.prog) 37 46 (.slice none 0 0) 1 24 Try.underlying37 ends_info .i64 .i64 xs.length (by omega) (by omega) W
  simp only [Value.cells, Nat.mul_one] at hmk
  go_enter Try.func113, Try.ntmps113
  go_wp2
  go_loopw [4] (fun i wr => ∃ (k : Nat) (gs : Nat → Nat), k ≤ xs.length ∧ i = .int .i64 k ∧ wr.rowIs w.heap.size 46 xs.length (fun i => if i < k then .slice (some ⟨gs i, 0, none⟩) (gl xs i).length (gl xs i).length else .slice none 0 0) ∧
      (∀ i, i < k → w.heap.size < gs i ∧ PairRow wr (gs i) 48 (gl xs i)) ∧ Below w.heap.size w wr)
    (fun i _ => xs.length - (intOf i).toNat)
  case atStart =>
    refine ⟨0, fun _ => 0, Nat.zero_le _, rfl, ?_, fun i hi => absurd hi (Nat.not_lt_zero _), (Below.refl _ _).alloc (Nat.le_refl _) _⟩
    simpa using World.rowIs_made w (.slice none 0 0) xs.length 46
  case round =>
    obtain ⟨k, gs, hk, rfl, hrow, hgs, hbel⟩ := hrel
    by_cases hlt : k < xs.length
    · obtain ⟨b, off, rfl, -, hc⟩ := HX.out (by omega)
      obtain ⟨u, hu, hr⟩ := hc k hlt
      have hcell : wr.cell? ⟨b, off + k, none⟩ = some u := by rw [hbel.cell (by exact lt_of_cell hu)]; exact hu
      have C := Lib.hid (toEndS_any _ _ wr (hr.below hbel) (HS.out k hlt))
      have HR := Lib.hid hrow
      have HB := Lib.hid hbel
      have HG := Lib.hid hgs
      clear hbel hc hmk hrow hgs hu hr
      go_wp2_with fail
      refine C.out.mono ?_
      rintro e w1 ⟨g, rfl, hg, hp, hb1⟩
      have hgw : w.heap.size < g := Nat.lt_of_lt_of_le HR.out.lt hg
      have HB1 := Lib.hid (Below.thenB HB.out hb1 HB.out.size)
      have hrow1 : w1.rowIs w.heap.size 46 xs.length _ := HR.out.of_block (hb1.block _ HR.out.lt)
      have hc2 := hrow1.cell (i := k) (by omega)
      have hf2 := hrow1.frozen k
      have hrow2 := hrow1.set k (.slice (some ⟨g, 0, none⟩) (gl xs k).length (gl xs k).length)
      have hgs2 : ∀ i, i < k + 1 → w.heap.size < (if i = k then g else gs i) ∧ PairRow (w1.setCell ⟨w.heap.size, k, none⟩ (.slice (some ⟨g, 0, none⟩) (gl xs k).length (gl xs k).length)) (if i = k then g else gs i) 48 (gl xs i) := by
        intro i hi
        by_cases h1 : i = k
        · subst h1
          rw [if_pos rfl]
          exact ⟨hgw, World.rowIs.setOther hp (by simp; omega) _⟩
        · rw [if_neg h1]
          have h2 := HG.out i (by omega)
          exact ⟨h2.1, World.rowIs.setOther (World.rowIs.of_block h2.2 (hb1.block _ h2.2.lt)) (by have := h2.1; simp; omega) _⟩
      have HH := Lib.hid hrow2
      have HG2 := Lib.hid hgs2
      have HB2 := Lib.hid (HB1.out.setCell (p := ⟨w.heap.size, k, none⟩) (Nat.le_refl _) (.slice (some ⟨g, 0, none⟩) (gl xs k).length (gl xs k).length))
      clear hrow2 hrow1 hb1 hp hgs2 HG C
      go_wp2
      go_roundw
      case rel =>
        refine ⟨k + 1, fun i => if i = k then g else gs i, by omega, by go_num, HH.out.congr fun i hi => ?_, HG2.out, HB2.out⟩
        by_cases h1 : i = k
        · subst h1; simp
        · by_cases h2 : i < k
          · simp [h1, h2, show i < k + 1 by omega]
          · simp [h1, h2, show ¬ i < k + 1 by omega]
      case measure => simp [intOf]; omega
    · go_wp2
      go_ret
      exact ⟨_, rfl, ⟨_, gs, rfl, Nat.le_refl _, hrow.congr fun i hi => by simp [show i < k by omega], fun i hi => ⟨by have := (hgs i (by omega)).1; omega, (hgs i (by omega)).2⟩⟩, hbel⟩
end Go.Proofs.Ytclkboemgneojaa
