/- The library's search for a row by its view; what a table gives to a node. -/
import Derived.Test.YtjoimponfeofkaaGreatCVm4
import Derived.Test.YtjoimponfeofkaaGreatCJn28
import Derived.Test.YtjoimponfeofkaaGreatCJn25
namespace Go.Proofs.YtjoimponfeofkaaGreat
open Go.RowKit
attribute [local go_sem] BW.cell BW.frozen

def RetBs (w : World) (rows : List RowT) (s : ByteArray) (e : Ending) (w' : World) : Prop :=
  ∃ (k : Nat), e = .returned (.tuple #[.int .i64 (k : Nat), .bool (decide (k < rows.length ∧ (ga rows k).1 = s))]) ∧ k ≤ rows.length ∧ (∀ j, j < k → lessB (ga rows j).1 s = true) ∧ (k < rows.length → lessB (ga rows k).1 s = false) ∧ Below w.heap.size w w'

theorem cmp_less (a b : ByteArray) : decide (Lib.compareBytes a.data.toList b.data.toList < 0) = lessB a b := by
  rw [lessB_eq]
  exact decide_eq_decide.2 (cmpB_spec _ _).1
theorem cmp_eq (a b : ByteArray) : (Lib.compareBytes a.data.toList b.data.toList == 0) = decide (a = b) := by
  rw [Bool.eq_iff_iff]
  simp only [beq_iff_eq, decide_eq_true_eq]
  rw [(cmpB_spec _ _).2]
  exact ⟨bytes_ext, fun e => by rw [e]⟩

theorem asc_at {rows : List RowT} (h : Asc rows) {i j : Nat} (hij : i < j) (hj : j < rows.length) : lessB (ga rows i).1 (ga rows j).1 = true := by
  rw [ga_lt (Nat.lt_trans hij hj), ga_lt hj]
  exact List.pairwise_iff_getElem.1 h i j (Nat.lt_trans hij hj) hj hij

set_option maxRecDepth 100000 in
set_option maxHeartbeats 2000000 in
theorem search_any {S : Nat → Prop} (v : Value) (rows : List RowT) (s : ByteArray) (w : World) (h : SlR encR w S v rows) (ha : Asc rows) (hn : rows.length ≤ 60) :
    Calls Tryz.prog 68 #[v, .agg #[.string s, .int .i64 0], .func (.func 69) #[] #[]] w (RetBs w rows s) := by
  obtain ⟨A, c, rfl, hnc, hm, hx⟩ := h
  have HX := Lib.hid hx
  have HA := Lib.hid ha
  have HB0 := Lib.hid ((Below.refl w.heap.size w).alloc (Nat.le_refl _) (.cells #[.string s, .int .i64 0] 76))
  have HK0 := Lib.hid (Blk.new w 76 #[.string s, .int .i64 0])
  have ENT : Enters 69 := Enters.of Tryz.func69 (by kernel_rfl) rfl
  have hen : ∀ (args : Array Value) (w : World), (callFunc 69 args).run Tryz.prog w = .ok (.enter 69 args) w := ENT
  clear hx ha
  go_enter Tryz.func68, Tryz.ntmps68
  go_wp2_with fail
  generalize w.alloc (.cells #[.string s, .int .i64 0] 76) = w0 at *
  go_loopw [9, 10] (fun xi xj wr => ∃ i j : Nat, i ≤ j ∧ j ≤ rows.length ∧ xi = .int .i64 i ∧ xj = .int .i64 j ∧ (∀ k, k < i → lessB (ga rows k).1 s = true) ∧ (j < rows.length → lessB (ga rows j).1 s = false) ∧
      Blk wr w.heap.size 76 #[.string s, .int .i64 0] ∧ Below w.heap.size w wr) (fun xi xj _ => (intOf xj).toNat - (intOf xi).toNat)
  case atStart => exact ⟨0, rows.length, Nat.zero_le _, Nat.le_refl _, rfl, rfl, fun k hk => absurd hk (Nat.not_lt_zero _), fun h => absurd h (Nat.lt_irrefl _), HK0.out, HB0.out⟩
  case round =>
    obtain ⟨i, j, hij, hj, rfl, rfl, hlo, hhi, hk, hb⟩ := hrel
    have HLO := Lib.hid hlo
    have HHI := Lib.hid hhi
    have HK := Lib.hid hk
    have HB := Lib.hid hb
    have kc := hk.cell
    clear hlo hhi hk hb
    by_cases hlt : i < j
    · obtain ⟨mid, hmid⟩ : ∃ mid, mid = (i + j) / 2 := ⟨_, rfl⟩
      have hmi : ((i : Int) + (j : Int)) / 2 = (mid : Nat) := by omega
      have hm1 : i ≤ mid := by omega
      have hm2 : mid < j := by omega
      clear hmid
      go_upto_region 5 with fail
      obtain ⟨b, off, rfl, -, hbl, hc⟩ := HX.out (by omega)
      have c0 : wr.cell? ⟨b, off + mid * 2, none⟩ = some (.string (ga rows mid).1) := by rw [HB.out.cell (by exact hbl)]; simpa [encR] using hc mid (by omega) 0 (by decide)
      have c1 : wr.cell? ⟨b, off + mid * 2 + 1, none⟩ = some (.int .i64 (ga rows mid).2) := by rw [HB.out.cell (by exact hbl)]; simpa [encR] using hc mid (by omega) 1 (by decide)
      have hbw : b < wr.heap.size := by have := HB.out.size; omega
      have hkw := HK.out.lt
      have i0 : (0 : Int) ≤ (mid : Int) := by omega
      have i1 : (mid : Int) < (rows.length : Int) := by omega
      clear hc hmi
      refine wp_region_below (by kernel_rfl) (by kernel_rfl) ?_
      repeat (go_big_quiet_step ((go_at_call 69; exact quietB ((compareRows_any (ga rows mid) (s, 0) _).mono fun _ _ h => ⟨h.1, h.2.below⟩))))
      refine wpQuiet_nil ?_
      rintro _ ⟨x, rfl⟩
      rw [cmp_less]
      have HK1 := Lib.hid (HK.out.below x.h)
      have HB1 := Lib.hid (HB.out.trans (x.h.mono HB.out.size))
      obtain ⟨wx, hwx⟩ : ∃ z, z = x.wd := ⟨_, rfl⟩
      rw [← hwx] at HK1 HB1 ⊢
      clear hwx x kc c0 c1
      have HLO2 : Hid (∀ k, k ≤ mid → lessB (ga rows mid).1 s = true → lessB (ga rows k).1 s = true) := Lib.hid fun k hk h => by
        rcases Nat.lt_or_ge k mid with h2 | h2
        · exact lessB_trans (asc_at HA.out h2 (by omega)) h
        · obtain rfl : k = mid := by omega
          exact h
      cases hl : lessB (ga rows mid).1 s with
      | true =>
        have HL := Lib.hid hl
        clear hl
        go_wp2_with fail
        go_roundw
        case rel => exact ⟨mid + 1, j, by omega, hj, by go_num, rfl, fun k hk => HLO2.out k (by omega) HL.out, HHI.out, HK1.out, HB1.out⟩
        case measure => simp [intOf]; omega
      | false =>
        have HL := Lib.hid hl
        clear hl
        go_wp2_with fail
        go_roundw
        case rel => exact ⟨i, mid, hm1, by omega, rfl, rfl, HLO.out, fun _ => HL.out, HK1.out, HB1.out⟩
        case measure => simp [intOf]; omega
    · obtain rfl : i = j := by omega
      have hkw := HK.out.lt
      by_cases hlt2 : i < rows.length
      · obtain ⟨b, off, rfl, -, hbl, hc⟩ := HX.out (by omega)
        have c0 : wr.cell? ⟨b, off + i * 2, none⟩ = some (.string (ga rows i).1) := by rw [HB.out.cell (by exact hbl)]; simpa [encR] using hc i (by omega) 0 (by decide)
        have c1 : wr.cell? ⟨b, off + i * 2 + 1, none⟩ = some (.int .i64 (ga rows i).2) := by rw [HB.out.cell (by exact hbl)]; simpa [encR] using hc i (by omega) 1 (by decide)
        have hbw : b < wr.heap.size := by have := HB.out.size; omega
        have i0 : (0 : Int) ≤ (i : Int) := by omega
        have i1 : (i : Int) < (rows.length : Int) := by omega
        have HE : Hid (decide (i < rows.length ∧ (ga rows i).1 = s) = decide ((ga rows i).1 = s)) := Lib.hid (by simp [hlt2])
        clear hc
        go_upto_region 8 with fail
        refine wp_region_below (by kernel_rfl) (by kernel_rfl) ?_
        repeat (go_big_quiet_step ((go_at_call 69; exact quietB ((compareRows_any (ga rows i) (s, 0) _).mono fun _ _ h => ⟨h.1, h.2.below⟩))))
        refine wpQuiet_nil ?_
        rintro _ ⟨x, rfl⟩
        go_wp2_with fail
        go_ret2
        exact ⟨i, by rw [HE.out, ← cmp_eq]; rfl, hj, HLO.out, HHI.out, HB.out.trans (x.h.mono HB.out.size)⟩
      · have hir : ¬ (i : Int) < (rows.length : Int) := by omega
        have HE : Hid (decide (i < rows.length ∧ (ga rows i).1 = s) = false) := Lib.hid (by simp [hlt2])
        go_upto_region 8 with fail
        refine wp_region_below (by kernel_rfl) (by kernel_rfl) ?_
        repeat (go_big_quiet_step ((go_at_call 69; exact quietB ((compareRows_any (ga rows i) (s, 0) _).mono fun _ _ h => ⟨h.1, h.2.below⟩))))
        refine wpQuiet_nil ?_
        rintro _ ⟨x, rfl⟩
        go_wp2_with fail
        go_ret2
        exact ⟨i, by rw [HE.out]; rfl, hj, HLO.out, HHI.out, HB.out.trans (x.h.mono HB.out.size)⟩

theorem vtx_long {N : Net} {D v : Nat} (h : ¬ (ntx N D v).length ≤ 4000) : vtx N D v = strB [] := by unfold vtx; rw [if_neg h]
/-- no row of a table holds an empty view -/
theorem rowB_size {D : Int} {r : RowT} (h : rowB D r = true) : r.1.size ≠ 0 := by
  intro h0
  have hr : r.1 = strB [] := bytes_ext (by
    have : r.1.data.toList.length = 0 := by simpa using h0
    rw [List.eq_nil_of_length_eq_zero this]; rfl)
  unfold rowB at h
  rw [hr] at h
  have : viewOf (strB []) = none := by rfl
  rw [this] at h
  cases h

set_option maxRecDepth 100000 in
set_option maxHeartbeats 2000000 in
theorem give_any {S T : Nat → Prop} (v vN : Value) (D : Nat) (rows : List RowT) (N : Net) (x : Nat) (w : World) (h : SlR encR w S v rows) (hN : NetR w T vN N) (ht : tabB D rows = true) (hg : goodB N = true) (hid : N.ids.length ≤ 2097152) (hx : x < N.ends.length) :
    Calls Tryz.prog 40 #[.agg #[.int .i64 (D : Nat), v], vN, .int .i64 (x : Nat)] w (RetV w (.tuple #[.int .i64 ((giveT rows (vtx N D x)).getD 0), .bool (giveT rows (vtx N D x)).isSome])) := by
  have HR := Lib.hid h
  have HN := Lib.hid hN
  obtain ⟨hd, hl60, hrow, hasc⟩ := tabB_iff.1 ht
  have hd4 := inB_iff.1 hd
  obtain ⟨okb, hokb⟩ : ∃ b, b = decide ((ntx N D x).length ≤ 4000) := ⟨_, rfl⟩
  have HV := Lib.hid (fun W (hW : Below w.heap.size w W) => ViewText_any _ N x D W (HN.out.below hW) hg hid hx (by omega))
  rw [← hokb] at HV
  have HOK := Lib.hid hokb
  clear hokb
  have HS : Hid (∀ (s : ByteArray) W, Below w.heap.size w W → Calls Tryz.prog 68 #[v, .agg #[.string s, .int .i64 0], .func (.func 69) #[] #[]] W fun e w' => ∃ (k : Nat) (fb : Bool), e = .returned (.tuple #[.int .i64 (k : Nat), .bool fb]) ∧ fb = decide (k < rows.length ∧ (ga rows k).1 = s) ∧ k ≤ rows.length ∧ (∀ j, j < k → lessB (ga rows j).1 s = true) ∧ (k < rows.length → lessB (ga rows k).1 s = false) ∧ Below W.heap.size W w') :=
    Lib.hid (fun s W hW => (search_any _ rows s W (HR.out.below hW) hasc hl60).mono fun e w' ⟨k, h1, h2⟩ => ⟨k, _, h1, rfl, h2⟩)
  have HROW := Lib.hid hrow
  have HASC := Lib.hid hasc
  obtain ⟨A, c, rfl, -, -, hxx⟩ := h
  have HX := Lib.hid hxx
  obtain ⟨ve, vi, vn, rfl, -, -, -⟩ := hN
  have HB0 := Lib.hid (((Below.refl w.heap.size w).alloc (Nat.le_refl _) (.cells #[.int .i64 (D : Nat), .slice A rows.length c] 35)).alloc (by simp) (.cells #[ve, vi, vn] 39))
  obtain ⟨g, hgv⟩ : ∃ g, g = giveT rows (vtx N D x) := ⟨_, rfl⟩
  rw [← hgv]
  have HGV := Lib.hid hgv
  clear hrow hasc hxx ht hg hd hgv
  go_enter Tryz.func40, Tryz.ntmps40
  go_upto_region 3 with (first
    | (go_at_call 51; refine (HV.out _ HB0.out).mono ?_; rintro e w1 ⟨rfl, hb1⟩; obtain ⟨k0, -⟩ := box2b hb1; have HB1 := Lib.hid (Below.then_ HB0.out hb1); have HK1 := Lib.hid k0; have k1 := k0.cell; clear hb1 k0)
    | (go_at_call 68; refine (HS.out (vtx N D x) _ HB1.out).mono ?_; rintro e w2 ⟨k, fb, rfl, hfb, hk1, hk2, hk3, hb2⟩; have HB2 := Lib.hid (Below.then_ HB1.out hb2); have HK2 := Lib.hid (HK1.out.below hb2); have HF := Lib.hid (giveT_find HASC.out hk1 hk2 hk3); have HFB := Lib.hid hfb; clear hb2 hk2 hk3 k1 hfb))
  have hk2 := HK2.out.cell
  rw [← HGV.out] at HF
  cases fb with
  | false =>
    have HG : Hid (g = none) := Lib.hid (by rw [HF.out, if_neg (by have := HFB.out; simpa using this.symm)])
    cases okb
    all_goals
      go_wp2_with fail
      go_ret2
      exact ⟨by rw [HG.out]; rfl, HB2.out⟩
  | true =>
    obtain ⟨hkl, hke⟩ := of_decide_eq_true HFB.out.symm
    have HG : Hid (g = some (ga rows k).2) := Lib.hid (by rw [HF.out, if_pos ⟨hkl, hke⟩])
    cases okb with
    | false =>
      exfalso
      have h1 := rowB_size (HROW.out k hkl)
      have h2 : ¬ (ntx N D x).length ≤ 4000 := of_decide_eq_false HOK.out.symm
      rw [hke, vtx_long h2] at h1
      exact h1 rfl
    | true =>
      obtain ⟨b, off, rfl, -, hbl, hc⟩ := HX.out (by omega)
      have c1 : w2.cell? ⟨b, off + k * 2 + 1, none⟩ = some (.int .i64 (ga rows k).2) := by rw [HB2.out.cell (by exact hbl)]; simpa [encR] using hc k hkl 1 (by decide)
      have i0 : (0 : Int) ≤ (k : Int) := by omega
      have i1 : (k : Int) < (rows.length : Int) := by omega
      clear hc hke
      go_wp2_with fail
      go_ret2
      exact ⟨by rw [HG.out]; rfl, HB2.out⟩
end Go.Proofs.YtjoimponfeofkaaGreat
