/- The library's Compact at the program's rows. -/
import Derived.Test.YtclkboemgneojaaMt3
import Derived.Test.YtclkboemgneojaaSx3
import Derived.Test.YtclkboemgneojaaSli
namespace Go.Proofs.Ytclkboemgneojaa
open Go.RowKit

def RetCo (w : World) (B g cap : Nat) (d : List RowT) (e : Ending) (w' : World) : Prop :=
  e = .returned (.slice (some ⟨g, 0, none⟩) (ddR d).length cap) ∧ OwnG encR 84 w' B (.slice (some ⟨g, 0, none⟩) (ddR d).length cap) (ddR d) ∧ w.grownBy w' (some g)
theorem run_clear_rows (w : World) (g o n c : Nat) (hn : 0 < n) (hc : ∀ j, j < n * 2 → (w.cell? ⟨g, o + j, none⟩).isSome = true) (hf : ∀ j, w.frozen? ⟨g, j, none⟩ = false) :
    ∃ zl, ∀ ty, (Builtin.clear_ #[26] ty #[.slice (some ⟨g, o, none⟩) n c]).run Try.prog w = .ok (.tuple #[]) (w.setCells g o zl) := by
  obtain ⟨m, rfl⟩ : ∃ m, n = m + 1 := ⟨n - 1, by omega⟩
  have hv := Try.zeroValue84
  refine ⟨(Builtin.zeroCells (Value.agg #[.string ⟨#[]⟩, .int .i64 0]).cells (m + 1)).toList, ?_⟩
  have hst := run_storeCells_cells (P := Try.prog) g o (Builtin.zeroCells (Value.agg #[.string ⟨#[]⟩, .int .i64 0]).cells (m + 1)).toList 0 w (by
      intro j hj
      refine hc j ?_
      simpa [Builtin.zeroCells, Value.cells] using hj) (by intro j _; exact hf _) (by
      intro v hv'
      simp only [Builtin.zeroCells, Value.cells, Array.toList_map, List.mem_map] at hv'
      obtain ⟨i, -, rfl⟩ := hv'
      have h2 : i % (#[Value.string ⟨#[]⟩, Value.int .i64 0] : Array Value).size = 0 ∨ i % (#[Value.string ⟨#[]⟩, Value.int .i64 0] : Array Value).size = 1 := by
        show i % 2 = 0 ∨ i % 2 = 1
        omega
      rcases h2 with h | h <;> rw [h] <;> rfl)
  simp only [Nat.add_zero] at hst
  intro ty
  simp [Builtin.clear_, run_underlying Try.underlying26, hv, hst]
theorem own_at {t : TypeId} {w : World} {B g n cap : Nat} {L : List RowT} (h : OwnG encR t w B (.slice (some ⟨g, 0, none⟩) n cap) L) {j o : Nat} (hj : j < L.length) (ho : o = j * 2) :
    w.cell? ⟨g, o, none⟩ = some (.string (ga L j).1) ∧ w.cell? ⟨g, o + 1, none⟩ = some (.int .i64 (ga L j).2) := by
  subst ho
  have h1 := (h.at_ hj).1
  have h0 := h1 0 (by decide)
  have h2 := h1 1 (by decide)
  simp only [encR, Nat.add_zero, List.getElem?_cons_zero, List.getElem?_cons_succ] at h0 h2
  exact ⟨h0, h2⟩
theorem own_free {t : TypeId} {w : World} {B g n cap : Nat} {L : List RowT} (h : OwnG encR t w B (.slice (some ⟨g, 0, none⟩) n cap) L) : ∀ i, w.frozen? ⟨g, i, none⟩ = false := by
  rcases h.2 with ⟨h1, _⟩ | ⟨g', cap', cur, hv, hB, hg, _⟩
  · cases h1
  · cases hv
    exact Blk.free (show Blk w g t cur from hg)
theorem own_cap {t : TypeId} {w : World} {B g n cap : Nat} {L : List RowT} (h : OwnG encR t w B (.slice (some ⟨g, 0, none⟩) n cap) L) : L.length ≤ cap ∧ cap ≤ maxLen ∧ n = L.length ∧ B ≤ g := by
  rcases h.2 with ⟨h1, _⟩ | ⟨g', cap', cur, hv, hB, hg, hn, hm, hs, ht⟩
  · cases h1
  · have hcl := encR.cells_length L
    have h1 := h.1
    cases hv
    exact ⟨hn, hm, rfl, hB⟩
theorem slice_lo_at (g n cap k : Nat) (hk : k ≤ n) (hkc : k < cap) (W : World) : (Instr.sliceAt 26 (.slice (some ⟨g, 0, none⟩) n cap) (some (.int .i64 (k : Nat))) none none).run Try.prog W = .ok (.slice (some ⟨g, k * 2, none⟩) (n - k) (cap - k)) W := by
  rw [run_slice_lo Try.underlying26 rowSize _ _ _ _ hk, Go.sliced, if_neg (by omega), Option.map_some, addr_add, Nat.zero_add]
theorem slice_hi_at (g n cap k : Nat) (hk : k ≤ cap) (W : World) : (Instr.sliceAt 26 (.slice (some ⟨g, 0, none⟩) n cap) none (some (.int .i64 (k : Nat))) none).run Try.prog W = .ok (.slice (some ⟨g, 0, none⟩) k cap) W := by
  rw [run_slice_hi Try.underlying26 rowSize _ _ _ _ hk, Go.sliced]
  split
  · rfl
  · rw [Option.map_some, addr_add]; rfl

set_option maxRecDepth 100000 in
set_option maxHeartbeats 4000000 in
theorem compact_any (B g cap : Nat) (d : List RowT) (w : World) (h : OwnG encR 84 w B (.slice (some ⟨g, 0, none⟩) d.length cap) d) :
    Calls Try.prog 138 #[.slice (some ⟨g, 0, none⟩) d.length cap] w (RetCo w B g cap d) := by
  have HO := Lib.hid h
  obtain ⟨hcap, hmax, -, hBg⟩ := own_cap h
  unfold maxLen at hmax
  obtain ⟨n, hn⟩ : ∃ n, n = d.length := ⟨_, rfl⟩
  have HN := Lib.hid hn
  rw [← hn] at hcap HO ⊢
  clear h hn
  by_cases hl : n < 2
  · have HE : Hid (ddR d = d) := Lib.hid (by
      have := HN.out
      match d, this with
      | [], _ => rfl
      | [a], _ => rfl
      | a :: b :: l, h => simp at h; omega)
    have e1 : (n : Int) < 2 := by omega
    go_enter Try.func138, Try.ntmps138
    go_wp2_with fail
    go_ret
    unfold RetCo
    rw [HE.out, ← HN.out]
    exact ⟨rfl, HO.out, World.grownBy.refl _ _⟩
  have e1 : ¬ (n : Int) < 2 := by omega
  have hgd : Try.prog.eqGuardType Try.prog.depth 84 = false := by kernel_rfl
  go_enter Try.func138, Try.ntmps138
  go_wp2_with fail
  go_loopw [3] (fun x wr => ∃ k : Nat, 1 ≤ k ∧ k ≤ n ∧ x = .int .i64 k ∧ (∀ i, 0 < i → i < k → ga d i ≠ ga d (i - 1)) ∧ ∃ q, wr = w.drewN q) (fun x _ => n - (intOf x).toNat)
  case atStart => exact ⟨1, Nat.le_refl _, by omega, rfl, fun i h1 h2 => by omega, 0, rfl⟩
  case round =>
    obtain ⟨k, hk1, hkn, rfl, hdi, q, rfl⟩ := hrel
    have HD := Lib.hid hdi
    clear hdi
    have HOW : Hid (OwnG encR 84 (w.drewN q) B (.slice (some ⟨g, 0, none⟩) n cap) d) := Lib.hid (HO.out.below (below_drewN (Below.refl _ _) q))
    by_cases hlt : k < n
    · obtain ⟨c0, c1⟩ := own_at HO.out (j := k) (by have := HN.out; omega) rfl
      obtain ⟨c2, c3⟩ := own_at HO.out (j := k - 1) (by have := HN.out; omega) rfl
      have i0 : (0 : Int) ≤ (k : Int) := by omega
      have i1 : (k : Int) < (n : Int) := by omega
      have j0 : (0 : Int) ≤ (k : Int) - 1 := by omega
      have j1 : (k : Int) - 1 < (n : Int) := by omega
      have hw : IntKind.i64.wrap ((k : Int) - 1) = (k : Int) - 1 := IntWalk.i64_in _ (by omega)
      have hnn : ((k : Int) - 1).toNat = k - 1 := by omega
      by_cases he : ga d k = ga d (k - 1)
      · have hq : ∀ W, (binOp .eql 84 (.agg #[.string (ga d k).1, .int .i64 (ga d k).2]) (.agg #[.string (ga d (k - 1)).1, .int .i64 (ga d (k - 1)).2])).run Try.prog W = .ok (.bool true) W := fun W => by rw [eqlRow, decide_eq_true he]
        have HE := Lib.hid he
        have hsr := slice_lo_at g n cap k (by omega) (by omega)
        clear he
        go_wp2_with fail
        go_quiet (fail)
        clear c0 c1 c2 c3 hw hnn j0 j1 hq
        go_wp2_with fail
        go_loopw [5, 3] (fun x5 x3 wr => ∃ (j kk : Nat) (L : List RowT), 1 ≤ j ∧ j ≤ n - k ∧ x5 = .int .i64 j ∧ x3 = .int .i64 kk ∧ L.length = n ∧ OwnG encR 84 wr B (.slice (some ⟨g, 0, none⟩) n cap) L ∧ kk = (ddR (d.take (k + j))).length ∧ kk < k + j ∧
            (∀ i, i < kk → ga L i = ga (ddR (d.take (k + j))) i) ∧ (∀ i, k + j - 1 ≤ i → i < n → ga L i = ga d i) ∧ w.grownBy wr (some g)) (fun x5 _ _ => n - k - (intOf x5).toNat)
        case atStart =>
          have h1 : ddR (d.take (k + 1)) = d.take k := by
            rw [ddR_take (by omega) (by have := HN.out; omega), if_pos HE.out, ddR_plain (by have := HN.out; omega) HD.out]
          have h2 : (d.take k).length = k := by have := HN.out; simp; omega
          refine ⟨1, k, d, Nat.le_refl _, by omega, rfl, rfl, HN.out.symm, HO.out.below (by first | exact below_drewN (Below.refl _ _) _ | exact below_drewN (below_drewN (Below.refl _ _) _) _), by rw [h1, h2], by omega, fun i hi => ?_, fun i _ _ => rfl, by first | exact grown_drewN (World.grownBy.refl _ _) _ | exact grown_drewN (grown_drewN (World.grownBy.refl _ _) _) _⟩
          rw [h1]
          simp [ga, List.getElem?_take_of_lt hi]
        case round =>
          obtain ⟨j, kk, L, hj1, hjn, rfl, rfl, hLn, hown, hkk, hkl, hpre, hpost, hgr⟩ := hrel
          have HOL := Lib.hid hown
          have HKK := Lib.hid hkk
          have HPRE := Lib.hid hpre
          have HPOST := Lib.hid hpost
          have HGR := Lib.hid hgr
          have HLN := Lib.hid hLn
          have hkn2 : kk < n := by omega
          clear hown hkk hpre hpost hgr hLn hsr
          by_cases hlt2 : j < n - k
          · have pa := HPOST.out (k + j) (by omega) (by omega)
            have pb := HPOST.out (k + (j - 1)) (by omega) (by omega)
            obtain ⟨c0, c1⟩ := own_at HOL.out (j := k + j) (o := k * 2 + j * 2) (by have := HLN.out; omega) (by omega)
            obtain ⟨c2, c3⟩ := own_at HOL.out (j := k + (j - 1)) (o := k * 2 + (j - 1) * 2) (by have := HLN.out; omega) (by omega)
            obtain ⟨c4, c5⟩ := own_at HOL.out (j := kk) (o := kk * 2) (by have := HLN.out; omega) rfl
            have hfr := own_free HOL.out
            rw [pa] at c0 c1
            rw [pb] at c2 c3
            have i0 : (0 : Int) ≤ (j : Int) := by omega
            have i1 : (j : Int) < ((n - k : Nat) : Int) := by omega
            have j0 : (0 : Int) ≤ (j : Int) - 1 := by omega
            have j1 : (j : Int) - 1 < ((n - k : Nat) : Int) := by omega
            have k0 : (0 : Int) ≤ (kk : Int) := by omega
            have k1 : (kk : Int) < (n : Int) := by omega
            have hw : IntKind.i64.wrap ((j : Int) - 1) = (j : Int) - 1 := IntWalk.i64_in _ (by omega)
            have hnn : ((j : Int) - 1).toNat = j - 1 := by omega
            have HSTEP : Hid (ddR (d.take (k + j + 1)) = if ga d (k + j) = ga d (k + (j - 1)) then ddR (d.take (k + j)) else ddR (d.take (k + j)) ++ [ga d (k + j)]) := Lib.hid (by
              rw [ddR_take (by omega) (by have := HN.out; omega), show k + j - 1 = k + (j - 1) by omega])
            clear pa pb
            by_cases he : ga d (k + j) = ga d (k + (j - 1))
            · have hq : ∀ W, (binOp .neq 84 (.agg #[.string (ga d (k + j)).1, .int .i64 (ga d (k + j)).2]) (.agg #[.string (ga d (k + (j - 1))).1, .int .i64 (ga d (k + (j - 1))).2])).run Try.prog W = .ok (.bool false) W := fun W => by rw [neqRow, decide_eq_true he]; rfl
              have HS2 : Hid (ddR (d.take (k + (j + 1))) = ddR (d.take (k + j))) := Lib.hid (by rw [← Nat.add_assoc, HSTEP.out, if_pos he])
              clear he
              go_wp2_with fail
              go_quiet (fail)
              clear c0 c1 c2 c3 hw hnn j0 j1 hq
              go_wp2_with fail
              go_roundw
              case rel =>
                refine ⟨j + 1, kk, L, by omega, by omega, by go_num, rfl, HLN.out, HOL.out.below (below_drewN (Below.refl _ _) _), by rw [HS2.out]; exact HKK.out, by omega, fun i hi => by rw [HS2.out]; exact HPRE.out i hi, fun i h1 h2 => HPOST.out i (by omega) h2, grown_drewN HGR.out _⟩
              case measure => simp [intOf]; omega
            · have hq : ∀ W, (binOp .neq 84 (.agg #[.string (ga d (k + j)).1, .int .i64 (ga d (k + j)).2]) (.agg #[.string (ga d (k + (j - 1))).1, .int .i64 (ga d (k + (j - 1))).2])).run Try.prog W = .ok (.bool true) W := fun W => by rw [neqRow, decide_eq_false he]; rfl
              have HS2 : Hid (ddR (d.take (k + (j + 1))) = ddR (d.take (k + j)) ++ [ga d (k + j)]) := Lib.hid (by rw [← Nat.add_assoc, HSTEP.out, if_neg he])
              clear he
              go_wp2_with fail
              go_quiet (fail)
              clear c2 c3 hw hnn j0 j1 hq
              go_wp2_with fail
              go_roundw
              case rel =>
                have hlk := HKK.out
                refine ⟨j + 1, kk + 1, L.set kk (ga d (k + j)), by omega, by omega, by go_num, by go_num, by rw [List.length_set]; exact HLN.out, (HOL.out.below (below_drewN (Below.refl _ _) _)).set2 (by have := HLN.out; omega) _, by rw [HS2.out]; simp; omega, by omega, fun i hi => ?_, fun i h1 h2 => ?_, grown_put (grown_put (grown_drewN HGR.out _) _ _) _ _⟩
                · rw [HS2.out]
                  by_cases h3 : i = kk
                  · subst h3
                    have e1 : ga (ddR (d.take (k + j)) ++ [ga d (k + j)]) i = ga d (k + j) := by rw [hlk]; exact ga_right
                    rw [e1]
                    simp [ga, show i < L.length by have := HLN.out; omega]
                  · rw [ga_left (by omega), ← HPRE.out i (by omega)]
                    simp [ga, List.getElem?_set, show kk ≠ i by omega]
                · rw [← HPOST.out i (by omega) h2]
                  simp [ga, List.getElem?_set, show kk ≠ i by omega]
              case measure => simp [intOf]; omega
          · obtain rfl : j = n - k := by omega
            have HEND : Hid (L.take kk = ddR d) := Lib.hid (by
              have h1 : d.take (k + (n - k)) = d := List.take_of_length_le (by have := HN.out; omega)
              have h2 := HKK.out
              have h3 := HPRE.out
              rw [h1] at h2 h3
              have hlL := HLN.out
              apply List.ext_getElem
              · simp; omega
              · intro i h4 h5
                have := h3 i (by omega)
                rw [ga_lt (by omega), ga_lt h5] at this
                rw [List.getElem_take]; exact this)
            have HLK : Hid ((ddR d).length = kk) := Lib.hid (by rw [← HEND.out]; have := HLN.out; simp; omega)
            have hfr := own_free HOL.out
            have hsk := slice_lo_at g n cap kk (by omega) (by omega)
            have hsh := slice_hi_at g n cap kk (by omega)
            obtain ⟨zl, hclr⟩ := run_clear_rows wr g (kk * 2) (n - kk) (cap - kk) (by omega) (fun i hi => by
              rcases Nat.mod_two_eq_zero_or_one i with h | h
              · have := (own_at HOL.out (j := kk + i / 2) (o := kk * 2 + i) (by have := HLN.out; omega) (by omega)).1
                rw [this]; rfl
              · have := (own_at HOL.out (j := kk + i / 2) (o := kk * 2 + i - 1) (by have := HLN.out; omega) (by omega)).2
                rw [show kk * 2 + i - 1 + 1 = kk * 2 + i by omega] at this
                rw [this]; rfl) hfr
            have HFIN : Hid (OwnG encR 84 (wr.setCells g (kk * 2) zl) B (.slice (some ⟨g, 0, none⟩) kk cap) (ddR d)) := Lib.hid (by
              rw [← HEND.out]
              refine own_front HOL.out (by have := HLN.out; omega) fun c fr hc => ?_
              exact heap_setCells g zl (kk * 2) wr c _ fr hc)
            have HGF := Lib.hid (HGR.out.trans (grown_setCells g zl (kk * 2) wr))
            have HLE : Hid (kk ≤ n) := Lib.hid (by omega)
            have kz : 0 < n - kk := by omega
            go_wp2_with fail
            go_ret
            unfold RetCo
            rw [HLK.out]
            exact ⟨rfl, HFIN.out, HGF.out⟩
      · have hq : ∀ W, (binOp .eql 84 (.agg #[.string (ga d k).1, .int .i64 (ga d k).2]) (.agg #[.string (ga d (k - 1)).1, .int .i64 (ga d (k - 1)).2])).run Try.prog W = .ok (.bool false) W := fun W => by rw [eqlRow, decide_eq_false he]
        have HE := Lib.hid he
        clear he
        go_wp2_with fail
        go_quiet (fail)
        clear c0 c1 c2 c3 hw hnn j0 j1
        go_wp2_with fail
        go_roundw
        case rel =>
          refine ⟨k + 1, by omega, by omega, by go_num, fun i h1 h2 => ?_, _, rfl⟩
          by_cases h3 : i = k
          · subst h3; exact HE.out
          · exact HD.out i h1 (by omega)
        case measure => simp [intOf]; omega
    · obtain rfl : k = n := by omega
      have HE : Hid (ddR d = d) := Lib.hid (by
        have := ddR_plain (d := d) (m := k) (by have := HN.out; omega) HD.out
        rwa [List.take_of_length_le (by have := HN.out; omega)] at this)
      go_wp2_with fail
      go_ret
      unfold RetCo
      rw [HE.out, ← HN.out]
      exact ⟨rfl, HOW.out, grown_drewN (World.grownBy.refl _ _) q⟩
end Go.Proofs.Ytclkboemgneojaa
