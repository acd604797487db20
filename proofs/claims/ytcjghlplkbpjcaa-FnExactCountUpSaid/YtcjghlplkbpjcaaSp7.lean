/- The reference's CountUp. -/
import Derived.Test.YtcjghlplkbpjcaaSp6
namespace Go.Proofs.Ytcjghlplkbpjcaa
open Go.RowKit

/-- what CountUp gives -/
def RetCount (N : Net) (ps : List Int) (w : World) (e : Ending) (w' : World) : Prop :=
  Below w.heap.size w w' ∧ ((SumOk N ps (List.replicate ps.length 1) ∧ ∃ (s : List Int) (h b : Int), SumIs N ps (List.replicate ps.length 1) s h b ∧ e = .returned (.tuple #[.int .i64 ps.length, .int .i64 (b - ps.length + 1), .bool true])) ∨
    (¬ SumOk N ps (List.replicate ps.length 1) ∧ e = .returned (.tuple #[.int .i64 0, .int .i64 0, .bool false])))

theorem gi_replicate {n j : Nat} (h : j < n) : gi (List.replicate n 1) j = 1 := by simp [gi, h]

theorem SumOk.small {N : Net} {ps vals : List Int} (h : SumOk N ps vals) : 1 ≤ ps.length ∧ ps.length ≤ 40 := by
  obtain ⟨r, ds, t⟩ := h.2.1
  have := good_len h.1
  have := t.1
  omega
theorem SumIs.bits {N : Net} {ps vals s : List Int} {h b : Int} (x : SumIs N ps vals s h b) : s.length = ps.length ∧ 0 ≤ b ∧ b ≤ ps.length * 65 := by
  obtain ⟨r, ds, t, f, m, rfl⟩ := x
  have := bitsPart_le r s ps.length
  exact ⟨f.1, this.1, this.2⟩

set_option maxRecDepth 100000 in
set_option maxHeartbeats 2000000 in
theorem specCountUp_any {S S' : Nat → Prop} (v u : Value) (N : Net) (ps : List Int) (w : World) (h : NetR w S v N) (hp : IntsR w S' u ps) (hn : ps.length ≤ 2097152) :
    Calls Try.prog 38 #[v, u] w (RetCount N ps w) := by
  have C := Lib.hid (fun (W : World) (x : Value) (hW : Below w.heap.size w W) (hx : IntsR W (fun b => 0 ≤ b) x (List.replicate ps.length 1)) => specSumUp_any v u x N ps _ W (h.below hW) (hp.below hW) hx)
  obtain ⟨ve, vi, vn, rfl, he, hi, hn'⟩ := h
  obtain ⟨A, c, rfl, -, -, -⟩ := he
  obtain ⟨A1, c1, rfl, -, -, -⟩ := hi
  obtain ⟨A2, c2, rfl, -, -, -⟩ := hn'
  obtain ⟨A3, c3, rfl, hn3, hm3, hx3⟩ := hp
  have hb0 : ∀ o1, Below w.heap.size w (w.alloc o1) := fun o1 => (Below.refl _ _).alloc (Nat.le_refl _) _
  have HB0 := Lib.hid hb0
  have hmk := fun W => Go.run_make_row' (P := Try.prog) 36 3 (.int .i64 0) 8 Try.underlying36 int_inf rfl .i64 .i64 ps.length (by omega) (by omega) W
  clear hb0 hx3
  go_enter Try.func38, Try.ntmps38
  go_wp2
  clear hmk
  go_loopw [18] (fun i wr => ∃ k : Nat, k ≤ ps.length ∧ i = .int .i64 k ∧ wr.rowIs (w.heap.size + 1) 3 ps.length (fun i => if i < k then .int .i64 1 else .int .i64 0) ∧
      Blk wr w.heap.size 44 #[.slice A N.ends.length c, .slice A1 N.ids.length c1, .slice A2 N.inputs.length c2] ∧ Below w.heap.size w wr) (fun i _ => ps.length - (intOf i).toNat)
  case atStart =>
    refine ⟨0, Nat.zero_le _, rfl, ?_, (Blk.new _ _ _).alloc _, (HB0.out _).alloc (by simp) _⟩
    have := World.rowIs_made (w.alloc (Obj.cells #[.slice A N.ends.length c, .slice A1 N.ids.length c1, .slice A2 N.inputs.length c2] 44)) (.int .i64 0) ps.length 3
    simpa using this
  case round =>
    obtain ⟨k, hk, rfl, hrow, hblk, hbel⟩ := hrel
    by_cases hlt : k < ps.length
    · have hc2 := hrow.cell hlt
      have hf2 := hrow.frozen k
      have HR := Lib.hid (hrow.set k (.int .i64 1))
      have HK := Lib.hid (hblk.far (p := ⟨w.heap.size + 1, k, none⟩) (by simp) (.int .i64 1))
      have HB := Lib.hid (hbel.setCell (p := ⟨w.heap.size + 1, k, none⟩) (by simp) (.int .i64 1))
      clear hrow hblk hbel
      go_wp2
      go_roundw
      case rel =>
        refine ⟨k + 1, by omega, by go_num, HR.out.congr fun i hi => ?_, HK.out, HB.out⟩
        by_cases h1 : i = k
        · subst h1; simp
        · by_cases h2 : i < k
          · simp [h1, h2, show i < k + 1 by omega]
          · simp [h1, h2, show ¬ i < k + 1 by omega]
      case measure => simp [intOf]; omega
    · have HO : Hid (OwnI wr w.heap.size (.slice (some ⟨w.heap.size + 1, 0, none⟩) ps.length ps.length) (List.replicate ps.length 1)) :=
        OwnI.of_rowIs (hrow.congr fun i hi => by rw [gi_replicate hi]; simp [show i < k by omega]) (by simp) (by omega) (by unfold maxLen; omega)
      have HB := Lib.hid hbel
      have hcb := hblk.cell
      clear hrow hblk hbel
      go_wp2_with fail
      refine (C.out _ _ HB.out (HO.out.ints.weak fun _ _ => Nat.zero_le _)).mono ?_
      rintro e w2 ⟨hb2, hres⟩
      have HB2 := Lib.hid (Below.then_ HB.out hb2)
      clear hb2 hcb C
      rcases hres with ⟨hok, vs, s, h, b, his, rfl, hos⟩ | ⟨hno, rfl⟩
      · obtain ⟨hn1, hn2⟩ := hok.small
        obtain ⟨hsl, hb1, hb2⟩ := his.bits
        obtain ⟨Av, cv, rfl⟩ := hos.shape
        rw [hsl]
        have HE : Hid (max (ps.length : Int) 0 = ps.length) := by show max (ps.length : Int) 0 = ps.length; omega
        have HOK := Lib.hid hok
        have HIS := Lib.hid his
        clear hok his hos hsl
        go_wp2_with (go_at_call 99; refine (l1Most_any _ _ _).mono ?_; rintro e w3 ⟨rfl, rfl⟩; rw [HE.out])
        go_ret3
        exact ⟨HB2.out, .inl ⟨HOK.out, s, h, b, HIS.out, rfl⟩⟩
      · have HNO := Lib.hid hno
        clear hno
        go_wp2_with fail
        go_ret3
        exact ⟨HB2.out, .inr ⟨HNO.out, rfl⟩⟩
end Go.Proofs.Ytcjghlplkbpjcaa
