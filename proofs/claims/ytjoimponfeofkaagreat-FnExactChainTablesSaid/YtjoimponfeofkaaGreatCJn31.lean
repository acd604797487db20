/- Parts of the proof, joined: Mt4, Lr2, Mt5, Otx, Tf1. -/
import Derived.Test.YtjoimponfeofkaaGreatCMt3
import Derived.Test.YtjoimponfeofkaaGreatCJn23
import Derived.Test.YtjoimponfeofkaaGreatCSli
import Derived.Test.YtjoimponfeofkaaGreatCJn9
import Derived.Test.YtjoimponfeofkaaGreatCJn20
import Derived.Test.YtjoimponfeofkaaGreatCJn1
import Derived.Test.YtjoimponfeofkaaGreatCJn3
import Derived.Test.YtjoimponfeofkaaGreatCJn25
namespace Go.Proofs.YtjoimponfeofkaaGreat
open Go.RowKit

def RetCo (w : World) (B g cap : Nat) (d : List RowT) (e : Ending) (w' : World) : Prop :=
  e = .returned (.slice (some ⟨g, 0, none⟩) (ddR d).length cap) ∧ OwnG encR 76 w' B (.slice (some ⟨g, 0, none⟩) (ddR d).length cap) (ddR d) ∧ w.grownBy w' (some g)
theorem run_clear_rows (w : World) (g o n c : Nat) (hn : 0 < n) (hc : ∀ j, j < n * 2 → (w.cell? ⟨g, o + j, none⟩).isSome = true) (hf : ∀ j, w.frozen? ⟨g, j, none⟩ = false) :
    ∃ zl, ∀ ty, (Builtin.clear_ #[33] ty #[.slice (some ⟨g, o, none⟩) n c]).run Tryz.prog w = .ok (.tuple #[]) (w.setCells g o zl) := by
  obtain ⟨m, rfl⟩ : ∃ m, n = m + 1 := ⟨n - 1, by omega⟩
  have hv := Tryz.zeroValue76
  refine ⟨(Builtin.zeroCells (Value.agg #[.string ⟨#[]⟩, .int .i64 0]).cells (m + 1)).toList, ?_⟩
  have hst := run_storeCells_cells (P := Tryz.prog) g o (Builtin.zeroCells (Value.agg #[.string ⟨#[]⟩, .int .i64 0]).cells (m + 1)).toList 0 w (by
      intro j hj
      refine hc j ?_
      simpa [Builtin.zeroCells, Value.cells] using hj) (by intro j _; exact hf _) (by
      intro v hv'
      simp only [Builtin.zeroCells, Value.cells, Array.toList_map, List.mem_map] at hv'
      obtain ⟨i, -, rfl⟩ := hv'
      have h2 : i % (#[Value.string ⟨#[]⟩, Value.int .i64 0] : Array Value).size = 0 ∨ i % (#[Value.string ⟨#[]⟩, Value.int .i64 0] : Array Value).size = 1 := by
        show i % 2 = 0 ∨ i % 2 = 1
        omega
      rcases h2 with h | h <;> rw [h] <;> rfl)
  simp only [Nat.add_zero] at hst
  intro ty
  simp [Builtin.clear_, run_underlying Tryz.underlying33, hv, hst]
theorem own_at {t : TypeId} {w : World} {B g n cap : Nat} {L : List RowT} (h : OwnG encR t w B (.slice (some ⟨g, 0, none⟩) n cap) L) {j o : Nat} (hj : j < L.length) (ho : o = j * 2) :
    w.cell? ⟨g, o, none⟩ = some (.string (ga L j).1) ∧ w.cell? ⟨g, o + 1, none⟩ = some (.int .i64 (ga L j).2) := by
  subst ho
  have h1 := (h.at_ hj).1
  have h0 := h1 0 (by decide)
  have h2 := h1 1 (by decide)
  simp only [encR, Nat.add_zero, List.getElem?_cons_zero, List.getElem?_cons_succ] at h0 h2
  exact ⟨h0, h2⟩
theorem own_free {t : TypeId} {w : World} {B g n cap : Nat} {L : List RowT} (h : OwnG encR t w B (.slice (some ⟨g, 0, none⟩) n cap) L) : ∀ i, w.frozen? ⟨g, i, none⟩ = false := by
  rcases h.2 with ⟨h1, _⟩ | ⟨g', cap', cur, hv, hB, hg, _⟩
  · cases h1
  · cases hv
    exact Blk.free (show Blk w g t cur from hg)
theorem own_cap {t : TypeId} {w : World} {B g n cap : Nat} {L : List RowT} (h : OwnG encR t w B (.slice (some ⟨g, 0, none⟩) n cap) L) : L.length ≤ cap ∧ cap ≤ maxLen ∧ n = L.length ∧ B ≤ g := by
  rcases h.2 with ⟨h1, _⟩ | ⟨g', cap', cur, hv, hB, hg, hn, hm, hs, ht⟩
  · cases h1
  · have hcl := encR.cells_length L
    have h1 := h.1
    cases hv
    exact ⟨hn, hm, rfl, hB⟩
theorem slice_lo_at (g n cap k : Nat) (hk : k ≤ n) (hkc : k < cap) (W : World) : (Instr.sliceAt 33 (.slice (some ⟨g, 0, none⟩) n cap) (some (.int .i64 (k : Nat))) none none).run Tryz.prog W = .ok (.slice (some ⟨g, k * 2, none⟩) (n - k) (cap - k)) W := by
  rw [run_slice_lo Tryz.underlying33 rowSize _ _ _ _ hk, Go.sliced, if_neg (by omega), Option.map_some, addr_add, Nat.zero_add]
theorem slice_hi_at (g n cap k : Nat) (hk : k ≤ cap) (W : World) : (Instr.sliceAt 33 (.slice (some ⟨g, 0, none⟩) n cap) none (some (.int .i64 (k : Nat))) none).run Tryz.prog W = .ok (.slice (some ⟨g, 0, none⟩) k cap) W := by
  rw [run_slice_hi Tryz.underlying33 rowSize _ _ _ _ hk, Go.sliced]
  split
  · rfl
  · rw [Option.map_some, addr_add]; rfl

set_option maxRecDepth 100000 in
set_option maxHeartbeats 4000000 in
theorem compact_any (B g cap : Nat) (d : List RowT) (w : World) (h : OwnG encR 76 w B (.slice (some ⟨g, 0, none⟩) d.length cap) d) :
    Calls Tryz.prog 89 #[.slice (some ⟨g, 0, none⟩) d.length cap] w (RetCo w B g cap d) := by
  have HO := Lib.hid h
  obtain ⟨hcap, hmax, -, hBg⟩ := own_cap h
  unfold maxLen at hmax
  obtain ⟨n, hn⟩ : ∃ n, n = d.length := ⟨_, rfl⟩
  have HN := Lib.hid hn
  rw [← hn] at hcap HO ⊢
  clear h hn
  by_cases hl : n < 2
  · have HE : Hid (ddR d = d) := Lib.hid (by
      have := HN.out
      match d, this with
      | [], _ => rfl
      | [a], _ => rfl
      | a :: b :: l, h => simp at h; omega)
    have e1 : (n : Int) < 2 := by omega
    go_enter Tryz.func89, Tryz.ntmps89
    go_wp2_with fail
    go_ret
    unfold RetCo
    rw [HE.out, ← HN.out]
    exact ⟨rfl, HO.out, World.grownBy.refl _ _⟩
  have e1 : ¬ (n : Int) < 2 := by omega
  have hgd : Tryz.prog.eqGuardType Tryz.prog.depth 76 = false := by kernel_rfl
  go_enter Tryz.func89, Tryz.ntmps89
  go_wp2_with fail
  go_loopw [3] (fun x wr => ∃ k : Nat, 1 ≤ k ∧ k ≤ n ∧ x = .int .i64 k ∧ (∀ i, 0 < i → i < k → ga d i ≠ ga d (i - 1)) ∧ ∃ q, wr = w.drewN q) (fun x _ => n - (intOf x).toNat)
  case atStart => exact ⟨1, Nat.le_refl _, by omega, rfl, fun i h1 h2 => by omega, 0, rfl⟩
  case round =>
    obtain ⟨k, hk1, hkn, rfl, hdi, q, rfl⟩ := hrel
    have HD := Lib.hid hdi
    clear hdi
    have HOW : Hid (OwnG encR 76 (w.drewN q) B (.slice (some ⟨g, 0, none⟩) n cap) d) := Lib.hid (HO.out.below (below_drewN (Below.refl _ _) q))
    by_cases hlt : k < n
    · obtain ⟨c0, c1⟩ := own_at HO.out (j := k) (by have := HN.out; omega) rfl
      obtain ⟨c2, c3⟩ := own_at HO.out (j := k - 1) (by have := HN.out; omega) rfl
      have i0 : (0 : Int) ≤ (k : Int) := by omega
      have i1 : (k : Int) < (n : Int) := by omega
      have j0 : (0 : Int) ≤ (k : Int) - 1 := by omega
      have j1 : (k : Int) - 1 < (n : Int) := by omega
      have hw : IntKind.i64.wrap ((k : Int) - 1) = (k : Int) - 1 := IntWalk.i64_in _ (by omega)
      have hnn : ((k : Int) - 1).toNat = k - 1 := by omega
      by_cases he : ga d k = ga d (k - 1)
      · have hq : ∀ W, (binOp .eql 76 (.agg #[.string (ga d k).1, .int .i64 (ga d k).2]) (.agg #[.string (ga d (k - 1)).1, .int .i64 (ga d (k - 1)).2])).run Tryz.prog W = .ok (.bool true) W := fun W => by rw [eqlRow, decide_eq_true he]
        have HE := Lib.hid he
        have hsr := slice_lo_at g n cap k (by omega) (by omega)
        clear he
        go_wp2_with fail
        go_quiet (fail)
        clear c0 c1 c2 c3 hw hnn j0 j1 hq
        go_wp2_with fail
        go_loopw [5, 3] (fun x5 x3 wr => ∃ (j kk : Nat) (L : List RowT), 1 ≤ j ∧ j ≤ n - k ∧ x5 = .int .i64 j ∧ x3 = .int .i64 kk ∧ L.length = n ∧ OwnG encR 76 wr B (.slice (some ⟨g, 0, none⟩) n cap) L ∧ kk = (ddR (d.take (k + j))).length ∧ kk < k + j ∧
            (∀ i, i < kk → ga L i = ga (ddR (d.take (k + j))) i) ∧ (∀ i, k + j - 1 ≤ i → i < n → ga L i = ga d i) ∧ w.grownBy wr (some g)) (fun x5 _ _ => n - k - (intOf x5).toNat)
        case atStart =>
          have h1 : ddR (d.take (k + 1)) = d.take k := by
            rw [ddR_take (by omega) (by have := HN.out; omega), if_pos HE.out, ddR_plain (by have := HN.out; omega) HD.out]
          have h2 : (d.take k).length = k := by have := HN.out; simp; omega
          refine ⟨1, k, d, Nat.le_refl _, by omega, rfl, rfl, HN.out.symm, HO.out.below (by first | exact below_drewN (Below.refl _ _) _ | exact below_drewN (below_drewN (Below.refl _ _) _) _), by rw [h1, h2], by omega, fun i hi => ?_, fun i _ _ => rfl, by first | exact grown_drewN (World.grownBy.refl _ _) _ | exact grown_drewN (grown_drewN (World.grownBy.refl _ _) _) _⟩
          rw [h1]
          simp [ga, List.getElem?_take_of_lt hi]
        case round =>
          obtain ⟨j, kk, L, hj1, hjn, rfl, rfl, hLn, hown, hkk, hkl, hpre, hpost, hgr⟩ := hrel
          have HOL := Lib.hid hown
          have HKK := Lib.hid hkk
          have HPRE := Lib.hid hpre
          have HPOST := Lib.hid hpost
          have HGR := Lib.hid hgr
          have HLN := Lib.hid hLn
          have hkn2 : kk < n := by omega
          clear hown hkk hpre hpost hgr hLn hsr
          by_cases hlt2 : j < n - k
          · have pa := HPOST.out (k + j) (by omega) (by omega)
            have pb := HPOST.out (k + (j - 1)) (by omega) (by omega)
            obtain ⟨c0, c1⟩ := own_at HOL.out (j := k + j) (o := k * 2 + j * 2) (by have := HLN.out; omega) (by omega)
            obtain ⟨c2, c3⟩ := own_at HOL.out (j := k + (j - 1)) (o := k * 2 + (j - 1) * 2) (by have := HLN.out; omega) (by omega)
            obtain ⟨c4, c5⟩ := own_at HOL.out (j := kk) (o := kk * 2) (by have := HLN.out; omega) rfl
            have hfr := own_free HOL.out
            rw [pa] at c0 c1
            rw [pb] at c2 c3
            have i0 : (0 : Int) ≤ (j : Int) := by omega
            have i1 : (j : Int) < ((n - k : Nat) : Int) := by omega
            have j0 : (0 : Int) ≤ (j : Int) - 1 := by omega
            have j1 : (j : Int) - 1 < ((n - k : Nat) : Int) := by omega
            have k0 : (0 : Int) ≤ (kk : Int) := by omega
            have k1 : (kk : Int) < (n : Int) := by omega
            have hw : IntKind.i64.wrap ((j : Int) - 1) = (j : Int) - 1 := IntWalk.i64_in _ (by omega)
            have hnn : ((j : Int) - 1).toNat = j - 1 := by omega
            have HSTEP : Hid (ddR (d.take (k + j + 1)) = if ga d (k + j) = ga d (k + (j - 1)) then ddR (d.take (k + j)) else ddR (d.take (k + j)) ++ [ga d (k + j)]) := Lib.hid (by
              rw [ddR_take (by omega) (by have := HN.out; omega), show k + j - 1 = k + (j - 1) by omega])
            clear pa pb
            by_cases he : ga d (k + j) = ga d (k + (j - 1))
            · have hq : ∀ W, (binOp .neq 76 (.agg #[.string (ga d (k + j)).1, .int .i64 (ga d (k + j)).2]) (.agg #[.string (ga d (k + (j - 1))).1, .int .i64 (ga d (k + (j - 1))).2])).run Tryz.prog W = .ok (.bool false) W := fun W => by rw [neqRow, decide_eq_true he]; rfl
              have HS2 : Hid (ddR (d.take (k + (j + 1))) = ddR (d.take (k + j))) := Lib.hid (by rw [← Nat.add_assoc, HSTEP.out, if_pos he])
              clear he
              go_wp2_with fail
              go_quiet (fail)
              clear c0 c1 c2 c3 hw hnn j0 j1 hq
              go_wp2_with fail
              go_roundw
              case rel =>
                refine ⟨j + 1, kk, L, by omega, by omega, by go_num, rfl, HLN.out, HOL.out.below (below_drewN (Below.refl _ _) _), by rw [HS2.out]; exact HKK.out, by omega, fun i hi => by rw [HS2.out]; exact HPRE.out i hi, fun i h1 h2 => HPOST.out i (by omega) h2, grown_drewN HGR.out _⟩
              case measure => simp [intOf]; omega
            · have hq : ∀ W, (binOp .neq 76 (.agg #[.string (ga d (k + j)).1, .int .i64 (ga d (k + j)).2]) (.agg #[.string (ga d (k + (j - 1))).1, .int .i64 (ga d (k + (j - 1))).2])).run Tryz.prog W = .ok (.bool true) W := fun W => by rw [neqRow, decide_eq_false he]; rfl
              have HS2 : Hid (ddR (d.take (k + (j + 1))) = ddR (d.take (k + j)) ++ [ga d (k + j)]) := Lib.hid (by rw [← Nat.add_assoc, HSTEP.out, if_neg he])
              clear he
              go_wp2_with fail
              go_quiet (fail)
              clear c2 c3 hw hnn j0 j1 hq
              go_wp2_with fail
              go_roundw
              case rel =>
                have hlk := HKK.out
                refine ⟨j + 1, kk + 1, L.set kk (ga d (k + j)), by omega, by omega, by go_num, by go_num, by rw [List.length_set]; exact HLN.out, (HOL.out.below (below_drewN (Below.refl _ _) _)).set2 (by have := HLN.out; omega) _, by rw [HS2.out]; simp; omega, by omega, fun i hi => ?_, fun i h1 h2 => ?_, grown_put (grown_put (grown_drewN HGR.out _) _ _) _ _⟩
                · rw [HS2.out]
                  by_cases h3 : i = kk
                  · subst h3
                    have e1 : ga (ddR (d.take (k + j)) ++ [ga d (k + j)]) i = ga d (k + j) := by rw [hlk]; exact ga_right
                    rw [e1]
                    simp [ga, show i < L.length by have := HLN.out; omega]
                  · rw [ga_left (by omega), ← HPRE.out i (by omega)]
                    simp [ga, List.getElem?_set, show kk ≠ i by omega]
                · rw [← HPOST.out i (by omega) h2]
                  simp [ga, List.getElem?_set, show kk ≠ i by omega]
              case measure => simp [intOf]; omega
          · obtain rfl : j = n - k := by omega
            have HEND : Hid (L.take kk = ddR d) := Lib.hid (by
              have h1 : d.take (k + (n - k)) = d := List.take_of_length_le (by have := HN.out; omega)
              have h2 := HKK.out
              have h3 := HPRE.out
              rw [h1] at h2 h3
              have hlL := HLN.out
              apply List.ext_getElem
              · simp; omega
              · intro i h4 h5
                have := h3 i (by omega)
                rw [ga_lt (by omega), ga_lt h5] at this
                rw [List.getElem_take]; exact this)
            have HLK : Hid ((ddR d).length = kk) := Lib.hid (by rw [← HEND.out]; have := HLN.out; simp; omega)
            have hfr := own_free HOL.out
            have hsk := slice_lo_at g n cap kk (by omega) (by omega)
            have hsh := slice_hi_at g n cap kk (by omega)
            obtain ⟨zl, hclr⟩ := run_clear_rows wr g (kk * 2) (n - kk) (cap - kk) (by omega) (fun i hi => by
              rcases Nat.mod_two_eq_zero_or_one i with h | h
              · have := (own_at HOL.out (j := kk + i / 2) (o := kk * 2 + i) (by have := HLN.out; omega) (by omega)).1
                rw [this]; rfl
              · have := (own_at HOL.out (j := kk + i / 2) (o := kk * 2 + i - 1) (by have := HLN.out; omega) (by omega)).2
                rw [show kk * 2 + i - 1 + 1 = kk * 2 + i by omega] at this
                rw [this]; rfl) hfr
            have HFIN : Hid (OwnG encR 76 (wr.setCells g (kk * 2) zl) B (.slice (some ⟨g, 0, none⟩) kk cap) (ddR d)) := Lib.hid (by
              rw [← HEND.out]
              refine own_front HOL.out (by have := HLN.out; omega) fun c fr hc => ?_
              exact heap_setCells g zl (kk * 2) wr c _ fr hc)
            have HGF := Lib.hid (HGR.out.trans (grown_setCells g zl (kk * 2) wr))
            have HLE : Hid (kk ≤ n) := Lib.hid (by omega)
            have kz : 0 < n - kk := by omega
            go_wp2_with fail
            go_ret
            unfold RetCo
            rw [HLK.out]
            exact ⟨rfl, HFIN.out, HGF.out⟩
      · have hq : ∀ W, (binOp .eql 76 (.agg #[.string (ga d k).1, .int .i64 (ga d k).2]) (.agg #[.string (ga d (k - 1)).1, .int .i64 (ga d (k - 1)).2])).run Tryz.prog W = .ok (.bool false) W := fun W => by rw [eqlRow, decide_eq_false he]
        have HE := Lib.hid he
        clear he
        go_wp2_with fail
        go_quiet (fail)
        clear c0 c1 c2 c3 hw hnn j0 j1
        go_wp2_with fail
        go_roundw
        case rel =>
          refine ⟨k + 1, by omega, by omega, by go_num, fun i h1 h2 => ?_, _, rfl⟩
          by_cases h3 : i = k
          · subst h3; exact HE.out
          · exact HD.out i h1 (by omega)
        case measure => simp [intOf]; omega
    · obtain rfl : k = n := by omega
      have HE : Hid (ddR d = d) := Lib.hid (by
        have := ddR_plain (d := d) (m := k) (by have := HN.out; omega) HD.out
        rwa [List.take_of_length_le (by have := HN.out; omega)] at this)
      go_wp2_with fail
      go_ret
      unfold RetCo
      rw [HE.out, ← HN.out]
      exact ⟨rfl, HOW.out, grown_drewN (World.grownBy.refl _ _) q⟩
end Go.Proofs.YtjoimponfeofkaaGreat

namespace Go.Proofs.YtjoimponfeofkaaGreat
open Go.RowKit
attribute [local go_sem] strB_size BW.cell BW.frozen

/-- what is left of a size -/
def RetSzT (w : World) (left : Int) (P : Prop) (e : Ending) (w' : World) : Prop := ∃ r : Int, e = .returned (.int .i64 r) ∧ -1 ≤ r ∧ r ≤ left ∧ (0 ≤ r → P) ∧ Below w.heap.size w w'

set_option maxHeartbeats 800000 in
theorem szRow_any (s : ByteArray) (o left : Int) (w : World) (h0 : 0 ≤ left) (h1 : left ≤ 1048576) (hs : s.size ≤ 9223372036854775807) :
    Calls Tryz.prog 57 #[.agg #[.string s, .int .i64 o], .int .i64 left] w (RetSzT w left True) := by
  have HB := Lib.hid ((Below.refl w.heap.size w).alloc (Nat.le_refl _) (.cells #[.string s, .int .i64 o] 82))
  by_cases h : left - (s.size : Int) < 0
  · go_enter Tryz.func57, Tryz.ntmps57
    go_wp2_with fail
    go_ret
    exact ⟨-1, rfl, by omega, by omega, fun h => by omega, HB.out⟩
  · go_enter Tryz.func57, Tryz.ntmps57
    go_wp2_with fail
    go_ret
    exact ⟨_, rfl, by omega, by omega, fun _ => trivial, HB.out⟩

set_option maxRecDepth 100000 in
set_option maxHeartbeats 1000000 in
theorem szRowS_any {S : Nat → Prop} (v : Value) (rows : List RowT) (left : Int) (w : World) (h : SlR encR w S v rows) (h0 : 0 ≤ left) (h1 : left ≤ 1048576) (hs : ∀ j, j < rows.length → (ga rows j).1.size ≤ 9223372036854775807) :
    Calls Tryz.prog 31 #[v, .int .i64 left] w (RetSzT w left ((rows.length : Int) ≤ left)) := by
  obtain ⟨A, c, rfl, hnc, hm, hx⟩ := h
  unfold maxLen at hm
  have HX := Lib.hid hx
  have HS := Lib.hid hs
  clear hx hs
  by_cases hl : left - (rows.length : Int) < 0
  · go_enter Tryz.func31, Tryz.ntmps31
    go_wp2_with fail
    go_ret
    exact ⟨-1, rfl, by omega, by omega, fun h => by omega, Below.refl _ _⟩
  go_enter Tryz.func31, Tryz.ntmps31
  go_wp2_with fail
  go_loopw [1, 5] (fun x1 x5 wr => ∃ (j : Nat) (r : Int), j ≤ rows.length ∧ x5 = .int .i64 j ∧ x1 = .int .i64 r ∧ 0 ≤ r ∧ r ≤ left - rows.length ∧ Below w.heap.size w wr) (fun _ x5 _ => rows.length - (intOf x5).toNat)
  case atStart => exact ⟨0, _, Nat.zero_le _, rfl, rfl, by omega, by omega, Below.refl _ _⟩
  case round =>
    obtain ⟨j, r, hj, rfl, rfl, hr0, hr1, hbel⟩ := hrel
    have HB := Lib.hid hbel
    by_cases hlt : j < rows.length
    · obtain ⟨b, off, rfl, -, hlb, hc⟩ := HX.out (by omega)
      have c0 : wr.cell? ⟨b, off + j * 2, none⟩ = some (.string (ga rows j).1) := by rw [hbel.cell (by exact hlb)]; simpa [encR] using hc j hlt 0 (by decide)
      have c1 : wr.cell? ⟨b, off + j * 2 + 1, none⟩ = some (.int .i64 (ga rows j).2) := by rw [hbel.cell (by exact hlb)]; simpa [encR] using hc j hlt 1 (by decide)
      have i0 : (0 : Int) ≤ (j : Int) := by omega
      have i1 : (j : Int) < (rows.length : Int) := by omega
      have hsz := HS.out j hlt
      clear hc hbel
      go_wp2_with fail
      refine (szRow_any _ _ r wr hr0 (by omega) hsz).mono ?_
      rintro e w1 ⟨r1, rfl, hr2, hr3, -, hb1⟩
      have HB1 := Lib.hid (Below.thenB HB.out hb1 HB.out.size)
      clear hb1
      by_cases hneg : r1 < 0
      · go_wp2_with fail
        go_ret
        exact ⟨-1, rfl, by omega, by omega, fun h => by omega, HB1.out⟩
      · go_wp2_with fail
        go_roundw
        case rel => exact ⟨j + 1, r1, by omega, by go_num, rfl, by omega, by omega, HB1.out⟩
        case measure => simp [intOf]; omega
    · go_wp2_with fail
      go_ret
      exact ⟨r, rfl, by omega, by omega, fun _ => by omega, HB.out⟩

set_option maxRecDepth 100000 in
set_option maxHeartbeats 1000000 in
theorem szTable_any {S : Nat → Prop} (v : Value) (D : Int) (rows : List RowT) (left : Int) (w : World) (h : SlR encR w S v rows) (h0 : 0 ≤ left) (h1 : left ≤ 1048576) (hs : ∀ j, j < rows.length → (ga rows j).1.size ≤ 9223372036854775807) :
    Calls Tryz.prog 8 #[.agg #[.int .i64 D, v], .int .i64 left] w (RetSzT w left ((rows.length : Int) ≤ left)) := by
  have HR := Lib.hid h
  obtain ⟨A, c, rfl, hnc, hm, hx⟩ := h
  have HS := Lib.hid hs
  clear hx hs
  have HB := Lib.hid ((Below.refl w.heap.size w).alloc (Nat.le_refl _) (.cells #[.int .i64 D, .slice A rows.length c] 24))
  go_enter Tryz.func8, Tryz.ntmps8
  go_wp2_with fail
  refine (szRowS_any _ rows left _ (HR.out.below HB.out) h0 h1 HS.out).mono ?_
  rintro e w1 ⟨r1, rfl, hr2, hr3, hp, hb1⟩
  have HP := Lib.hid hp
  have HB1 := Lib.hid (HB.out.trans (hb1.mono (by simp)))
  clear hp hb1
  by_cases hneg : r1 < 0
  · go_wp2_with fail
    go_ret
    exact ⟨-1, rfl, by omega, by omega, fun h => by omega, HB1.out⟩
  · go_wp2_with fail
    go_ret
    exact ⟨r1, rfl, by omega, by omega, HP.out, HB1.out⟩

/-- the digits of a number ahead of what stands -/
def digsF : Nat → Nat → List UInt8 → List UInt8
  | 0, _, acc => acc
  | f + 1, k, acc => if k = 0 then acc else digsF f (k / 10) (dch (k % 10) :: acc)
def digs (k : Nat) (acc : List UInt8) : List UInt8 := digsF k k acc
theorem digsF_more : ∀ (f g k : Nat) (acc : List UInt8), k ≤ f → k ≤ g → digsF f k acc = digsF g k acc
  | 0, 0, _, _, _, _ => rfl
  | 0, g + 1, k, acc, h, _ => by
    obtain rfl : k = 0 := by omega
    simp [digsF]
  | f + 1, 0, k, acc, _, h => by
    obtain rfl : k = 0 := by omega
    simp [digsF]
  | f + 1, g + 1, k, acc, h1, h2 => by
    simp only [digsF]
    by_cases hk : k = 0
    · simp [hk]
    · simp only [hk, if_false]
      exact digsF_more f g (k / 10) _ (by omega) (by omega)
theorem digs_zero (acc : List UInt8) : digs 0 acc = acc := rfl
theorem digs_pos {k : Nat} (h : 0 < k) (acc : List UInt8) : digs k acc = digs (k / 10) (dch (k % 10) :: acc) := by
  obtain ⟨n, rfl⟩ : ∃ n, k = n + 1 := ⟨k - 1, by omega⟩
  unfold digs
  rw [digsF, if_neg (by omega)]
  exact digsF_more _ _ _ _ (by omega) (by omega)
/-- the text that marks a number -/
def mtx (k : Nat) : ByteArray := strB (109 :: digs k [])

set_option maxRecDepth 100000 in
set_option maxHeartbeats 1000000 in
theorem markText_any (k : Nat) (w : World) (h0 : 0 < k) (h1 : k ≤ 8388608) : Calls Tryz.prog 72 #[.int .i64 (k : Nat)] w (RetV w (.string (mtx k))) := by
  have e1 : ¬ (k : Int) ≤ 0 := by omega
  go_enter Tryz.func72, Tryz.ntmps72
  go_wp2_with fail
  go_loopw [0, 3] (fun x0 x3 wr => ∃ (m : Nat) (acc : List UInt8), m ≤ k ∧ x0 = .int .i64 m ∧ x3 = .string (strB acc) ∧ digs k [] = digs m acc ∧ acc.length + m ≤ k ∧ Below w.heap.size w wr) (fun x0 _ _ => (intOf x0).toNat)
  case atStart => exact ⟨k, [], Nat.le_refl _, rfl, rfl, rfl, by simp, Below.refl _ _⟩
  case round =>
    obtain ⟨m, acc, hm, rfl, rfl, hd, hl, hbel⟩ := hrel
    have HD := Lib.hid hd
    have HB := Lib.hid hbel
    have HBA := Lib.hid (hbel.alloc hbel.size (.cells #[.int .u8 (48 + (m : Int) % 10)] 5))
    clear hd hbel
    by_cases hlt : 0 < m
    · have hd10 : m % 10 ≤ 9 := by omega
      have hdd := dch_nat hd10
      have hcv : (convert 112 9 (.slice (some ⟨wr.heap.size, 0, none⟩) 1 1)).run Tryz.prog (wr.alloc (.cells #[.int .u8 (48 + (m : Int) % 10)] 5)) = .ok (.string (strB [dch (m % 10)])) (wr.alloc (.cells #[.int .u8 (48 + (m : Int) % 10)] 5)) :=
        run_convert_bytes_back _ _ _ _ _ _ [dch (m % 10)] Tryz.underlying112 Tryz.underlying5 Tryz.underlying9 (fun j hj => by
          obtain rfl : j = 0 := by simpa using hj
          rw [addr_add, (Blk.new wr 5 #[.int .u8 (48 + (m : Int) % 10)]).cell]
          simp [hdd])
      have b1 : 0 ≤ (m : Int) % 10 := by omega
      have b2 : (m : Int) % 10 ≤ 9 := by omega
      have hal : acc.length ≤ 8388608 := by omega
      clear hdd
      go_wp2_with fail
      go_roundw
      case rel => exact ⟨m / 10, dch (m % 10) :: acc, by omega, congrArg (Value.int .i64) (by omega), by rw [strB_app]; rfl, by rw [HD.out, digs_pos hlt], by simp; omega, HBA.out⟩
      case measure => simp [intOf]; omega
    · obtain rfl : m = 0 := by omega
      have HE : Hid (mtx k = strB ([109] ++ acc)) := Lib.hid (by rw [mtx, HD.out, digs_zero]; rfl)
      go_wp2_with fail
      go_ret
      refine ⟨?_, HB.out⟩
      rw [HE.out, ← strB_app [109] acc]
      rfl

/-- the marks k, k + 1, .. in rows -/
def mkR (k n : Nat) : List RowT := (List.range n).map fun i => (mtx (k + 2 * i), ((k + 2 * i + 1 : Nat) : Int))
theorem mkR_len (k n : Nat) : (mkR k n).length = n := by simp [mkR]
theorem mkR_get {k n j : Nat} (h : j < n) : ga (mkR k n) j = (mtx (k + 2 * j), ((k + 2 * j + 1 : Nat) : Int)) := by simp [mkR, ga, h]
theorem mkR_step (k : Nat) (rows : List RowT) {j : Nat} (h : j < rows.length) : (mkR k j ++ rows.drop j).set j (mtx (k + 2 * j), ((k + 2 * j + 1 : Nat) : Int)) = mkR k (j + 1) ++ rows.drop (j + 1) := by
  have e : (mkR k j ++ rows.drop j).set j (mtx (k + 2 * j), ((k + 2 * j + 1 : Nat) : Int)) = mkR k j ++ (rows.drop j).set 0 (mtx (k + 2 * j), ((k + 2 * j + 1 : Nat) : Int)) := by
    rw [List.set_append_right _ _ (by rw [mkR_len]; exact Nat.le_refl _)]
    simp [mkR_len]
  have e2 : (rows.drop j).set 0 (mtx (k + 2 * j), ((k + 2 * j + 1 : Nat) : Int)) = (mtx (k + 2 * j), ((k + 2 * j + 1 : Nat) : Int)) :: rows.drop (j + 1) := by
    rw [List.drop_eq_getElem_cons h]; rfl
  rw [e, e2]
  simp [mkR, List.range_succ]
def RetMr (w : World) (B : Nat) (v : Value) (k n : Nat) (e : Ending) (w' : World) : Prop := e = .returned (.int .i64 ((k + 2 * n : Nat) : Int)) ∧ OwnG encR 76 w' B v (mkR k n) ∧ w.grownBy w' v.ownBlock

set_option maxRecDepth 100000 in
set_option maxHeartbeats 2000000 in
theorem markRowS_any (B : Nat) (v : Value) (rows : List RowT) (k : Nat) (w : World) (h : OwnG encR 76 w B v rows) (h0 : 0 < k) (h1 : k + 2 * rows.length ≤ 8388608) :
    Calls Tryz.prog 43 #[v, .int .i64 (k : Nat)] w (RetMr w B v k rows.length) := by
  by_cases hp : 0 < rows.length
  · obtain ⟨g, cap, rfl, hB, hgl, hc1, hc2⟩ := h.addr hp
    have HO := Lib.hid h
    clear h
    obtain ⟨n, hnn⟩ : ∃ n, n = rows.length := ⟨_, rfl⟩
    rw [← hnn] at hp h1 hc1 HO ⊢
    have HN := Lib.hid hnn
    clear hnn
    go_enter Tryz.func43, Tryz.ntmps43
    go_wp2_with fail
    go_loopw [1, 5] (fun vk vi wr => ∃ j : Nat, j ≤ n ∧ vi = .int .i64 j ∧ vk = .int .i64 ((k + 2 * j : Nat) : Int) ∧ OwnG encR 76 wr B (.slice (some ⟨g, 0, none⟩) n cap) (mkR k j ++ rows.drop j) ∧ w.grownBy wr (some g)) (fun _ vi _ => n - (intOf vi).toNat)
    case atStart => exact ⟨0, Nat.zero_le _, rfl, rfl, by simpa [mkR] using HO.out, World.grownBy.refl _ _⟩
    case round =>
      obtain ⟨j, hj, rfl, rfl, hown, hgr⟩ := hrel
      have hlen : (mkR k j ++ rows.drop j).length = n := by have := HN.out; simp [mkR_len]; omega
      have HLN := Lib.hid hlen
      have HOW := Lib.hid hown
      have HGR := Lib.hid hgr
      have hzg : g < wr.heap.size := by have := hgr.size; omega
      clear hlen hown hgr
      by_cases hlt : j < n
      · obtain ⟨m, hm⟩ : ∃ m, m = k + 2 * j := ⟨_, rfl⟩
        have HM := Lib.hid hm
        have i0 : (0 : Int) ≤ (j : Int) := by omega
        have i1 : (j : Int) < (n : Int) := by omega
        have hmb : 0 < m ∧ m ≤ 8388608 := by omega
        rw [← hm]
        clear hm
        go_wp2_with fail
        refine (markText_any m wr hmb.1 hmb.2).mono ?_
        rintro e wb ⟨rfl, hbb⟩
        have HOB := Lib.hid (HOW.out.below hbb)
        have HGB : Hid (w.grownBy wb (some g)) := Lib.hid (HGR.out.trans ⟨hbb.os, hbb.tape, hbb.output, hbb.size, fun b hb _ => hbb.block b hb⟩)
        obtain ⟨c0, c1⟩ := own_at HOB.out (j := j) (by have := HLN.out; omega) rfl
        have hfr := own_free HOB.out
        have HO1 : Hid (OwnG encR 76 ((wb.setCell ⟨g, j * 2, none⟩ (.string (mtx m))).setCell ⟨g, j * 2 + 1, none⟩ (.int .i64 ((m + 1 : Nat) : Int))) B (.slice (some ⟨g, 0, none⟩) n cap) (mkR k (j + 1) ++ rows.drop (j + 1))) := Lib.hid (by
          have := HOB.out.set2 (k := j) (by have := HLN.out; omega) (mtx (k + 2 * j), ((k + 2 * j + 1 : Nat) : Int))
          rw [mkR_step k rows (by have := HN.out; omega)] at this
          rw [HM.out]; exact this)
        clear hbb
        go_wp2_with fail
        go_roundw
        case rel =>
          have hmm := HM.out
          refine ⟨j + 1, by omega, by go_num, congrArg (Value.int .i64) (by omega), ?_, grown_put (grown_put HGB.out _ _) _ _⟩
          first
            | exact HO1.out
            | (have := HO1.out; rw [Int.natCast_add] at this; exact this)
        case measure => simp [intOf]; omega
      · obtain rfl : j = n := by omega
        go_wp2_with fail
        go_ret
        refine ⟨rfl, ?_, HGR.out⟩
        have := HOW.out
        rwa [List.drop_eq_nil_of_le (by have := HN.out; omega), List.append_nil] at this
  · obtain ⟨A, c, rfl⟩ := h.shape
    obtain rfl : rows = [] := List.length_eq_zero_iff.1 (by omega)
    have HO := Lib.hid h
    clear h
    go_enter Tryz.func43, Tryz.ntmps43
    simp only [List.length_nil] at *
    go_wp2
    go_loopw [1, 5] (fun vk vi wr => vi = .int .i64 0 ∧ vk = .int .i64 k ∧ wr = w) (fun _ _ _ => 0)
    case atStart => exact ⟨rfl, rfl, rfl⟩
    case round =>
      obtain ⟨rfl, rfl, rfl⟩ := hrel
      go_wp2
      go_ret
      exact ⟨by simp, by simpa [mkR] using HO.out, World.grownBy.refl _ _⟩

set_option maxRecDepth 100000 in
set_option maxHeartbeats 2000000 in
theorem heldRowS_any {S : Nat → Prop} (v : Value) (k n : Nat) (w : World) (h : SlR encR w S v (mkR k n)) (h0 : 0 < k) (h1 : k + 2 * n ≤ 8388608) :
    Calls Tryz.prog 53 #[v, .int .i64 (k : Nat)] w (RetV w (.int .i64 ((k + 2 * n : Nat) : Int))) := by
  obtain ⟨A, c, rfl, hnc, hm, hx⟩ := h
  rw [mkR_len] at *
  have HX := Lib.hid hx
  clear hx hnc hm
  go_enter Tryz.func53, Tryz.ntmps53
  go_wp2_with fail
  go_loopw [1, 5] (fun vk vi wr => ∃ j : Nat, j ≤ n ∧ vi = .int .i64 j ∧ vk = .int .i64 ((k + 2 * j : Nat) : Int) ∧ Below w.heap.size w wr) (fun _ vi _ => n - (intOf vi).toNat)
  case atStart => exact ⟨0, Nat.zero_le _, rfl, rfl, Below.refl _ _⟩
  case round =>
    obtain ⟨j, hj, rfl, rfl, hbel⟩ := hrel
    have HB := Lib.hid hbel
    by_cases hlt : j < n
    · obtain ⟨b, off, rfl, -, hlb, hc⟩ := HX.out (by omega)
      obtain ⟨m, hm⟩ : ∃ m, m = k + 2 * j := ⟨_, rfl⟩
      have d0 : w.cell? ⟨b, off + j * 2, none⟩ = some (.string (mtx m)) := by have := hc j hlt 0 (by decide); rw [mkR_get hlt] at this; rw [hm]; simpa [encR] using this
      have d1 : w.cell? ⟨b, off + j * 2 + 1, none⟩ = some (.int .i64 ((m + 1 : Nat) : Int)) := by have := hc j hlt 1 (by decide); rw [mkR_get hlt] at this; rw [hm]; simpa [encR] using this
      have c0 : wr.cell? ⟨b, off + j * 2, none⟩ = some (.string (mtx m)) := (hbel.cell (p := ⟨b, off + j * 2, none⟩) hlb).trans d0
      have hlr : b < wr.heap.size := by have := hbel.size; omega
      have HM := Lib.hid hm
      have i0 : (0 : Int) ≤ (j : Int) := by omega
      have i1 : (j : Int) < (n : Int) := by omega
      have hmb : 0 < m ∧ m ≤ 8388608 := by omega
      have e1 : ((mtx m).toList == (mtx m).toList) = true := by simp
      have e2 : (((m + 1 : Nat) : Int) != ((m + 1 : Nat) : Int)) = false := by simp
      have HD1 := Lib.hid d1
      rw [← hm]
      clear hm hc hbel d0 d1
      go_wp2_with fail
      refine wp_region_below (by kernel_rfl) (by kernel_rfl) ?_
      repeat (go_big_quiet_step ((go_at_call 72; exact quietB (markText_any m _ hmb.1 hmb.2))))
      refine wpQuiet_nil ?_
      rintro _ ⟨x, rfl⟩
      have HBX := Lib.hid (Below.then_ HB.out x.h)
      have c1 : x.wd.cell? ⟨b, off + j * 2 + 1, none⟩ = some (.int .i64 ((m + 1 : Nat) : Int)) := (HBX.out.cell (p := ⟨b, off + j * 2 + 1, none⟩) hlb).trans HD1.out
      clear c0
      go_wp2_with fail
      go_roundw
      case rel =>
        have hmm := HM.out
        exact ⟨j + 1, by omega, by go_num, congrArg (Value.int .i64) (by omega), HBX.out⟩
      case measure => simp [intOf]; omega
    · obtain rfl : j = n := by omega
      go_wp2_with fail
      go_ret
      exact ⟨rfl, HB.out⟩

/-- what markTable gives: marks, and only the rows' own block has turned of what the call knew -/
def RetMkT (w : World) (B : Nat) (v : Value) (k n : Nat) (e : Ending) (w' : World) : Prop := e = .returned (.int .i64 ((k + 2 * n : Nat) : Int)) ∧ OwnG encR 76 w' B v (mkR k n) ∧ w.grownBy w' v.ownBlock
set_option maxHeartbeats 1000000 in
theorem markTable_any (B : Nat) (v : Value) (D : Int) (rows : List RowT) (k : Nat) (w : World) (h : OwnG encR 76 w B v rows) (h0 : 0 < k) (h1 : k + 2 * rows.length ≤ 8388608) :
    Calls Tryz.prog 17 #[.agg #[.int .i64 D, v], .int .i64 (k : Nat)] w (RetMkT w B v k rows.length) := by
  obtain ⟨A, c, rfl⟩ := h.shape
  have hb : Below w.heap.size w (w.alloc (.cells #[.int .i64 D, .slice A rows.length c] 35)) := (Below.refl _ _).alloc (Nat.le_refl _) _
  have HB := Lib.hid hb
  have HO := Lib.hid (h.below hb)
  have HLT := Lib.hid h.lt
  clear h hb
  go_enter Tryz.func17, Tryz.ntmps17
  go_wp2_with fail
  refine (markRowS_any B _ rows k _ HO.out h0 h1).mono ?_
  rintro e w1 ⟨rfl, ho, hg⟩
  have HO1 := Lib.hid ho
  have HG1 : Hid (w.grownBy w1 (Value.slice A rows.length c).ownBlock) := Lib.hid ((show w.grownBy (w.alloc (.cells #[.int .i64 D, .slice A rows.length c] 35)) _ from ⟨rfl, rfl, rfl, HB.out.size, fun b hb _ => HB.out.block b hb⟩).trans hg)
  clear ho hg
  go_wp2_with fail
  go_ret
  exact ⟨rfl, HO1.out, HG1.out⟩
set_option maxHeartbeats 1000000 in
theorem heldTable_any {S : Nat → Prop} (v : Value) (D : Int) (k n : Nat) (w : World) (h : SlR encR w S v (mkR k n)) (h0 : 0 < k) (h1 : k + 2 * n ≤ 8388608) :
    Calls Tryz.prog 26 #[.agg #[.int .i64 D, v], .int .i64 (k : Nat)] w (RetV w (.int .i64 ((k + 2 * n : Nat) : Int))) := by
  have HR := Lib.hid h
  obtain ⟨A, c, rfl, hnc, hm, hx⟩ := h
  rw [mkR_len] at HR ⊢
  have HB := Lib.hid ((Below.refl w.heap.size w).alloc (Nat.le_refl _) (.cells #[.int .i64 D, .slice A n c] 35))
  clear hnc hx
  go_enter Tryz.func26, Tryz.ntmps26
  go_wp2_with fail
  refine (heldRowS_any _ k n _ (HR.out.below HB.out) h0 h1).mono ?_
  rintro e w1 ⟨rfl, hb1⟩
  have HB1 := Lib.hid (Below.then_ HB.out hb1)
  have e1 : ¬ ((k + 2 * n : Nat) : Int) < 0 := by omega
  obtain ⟨r, hr⟩ : ∃ r : Int, r = ((k + 2 * n : Nat) : Int) := ⟨_, rfl⟩
  rw [← hr] at e1 ⊢
  clear hb1
  go_wp2_with fail
  go_ret
  exact ⟨rfl, HB1.out⟩
end Go.Proofs.YtjoimponfeofkaaGreat

namespace Go.Proofs.YtjoimponfeofkaaGreat
open Go.RowKit

/-- what madeTable and CutTable of the program give -/
def RetMt (w : World) (k : Int) (x : Option (List RowT)) (e : Ending) (w' : World) : Prop := Below w.heap.size w w' ∧ (match x with
  | none => e = .returned (.tuple #[.agg #[.int .i64 0, .slice none 0 0], .bool false])
  | some m => ∃ A c, e = .returned (.tuple #[.agg #[.int .i64 k, .slice A m.length c], .bool true]) ∧ OwnG encR 76 w' w.heap.size (.slice A m.length c) m)
def madeT (k : Int) (rs : List RowT) : Option (List RowT) := if tabB k (madeOf rs) = true then some (madeOf rs) else none
theorem RetMt.no {w w' : World} {k : Int} {x : Option (List RowT)} (h : x = none) (hb : Below w.heap.size w w') : RetMt w k x (.returned (.tuple #[.agg #[.int .i64 0, .slice none 0 0], .bool false])) w' := by subst h; exact ⟨hb, rfl⟩
theorem RetMt.yes {w w' : World} {k : Int} {x : Option (List RowT)} {m : List RowT} {A : Option Addr} {n c : Nat} (h : x = some m) (hn : n = m.length) (hb : Below w.heap.size w w') (ho : OwnG encR 76 w' w.heap.size (.slice A n c) m) :
    RetMt w k x (.returned (.tuple #[.agg #[.int .i64 k, .slice A n c], .bool true])) w' := by subst h hn; exact ⟨hb, A, c, rfl, ho⟩
theorem IsTable_b {S : Nat → Prop} (v : Value) (D : Int) (rows : List RowT) (b : Bool) (w : World) (h : SlR encR w S v rows) (hb : tabB D rows = b) : Calls Tryz.prog 38 #[.agg #[.int .i64 D, v]] w (RetV w (.bool b)) := by subst hb; exact IsTable_any v D rows w h

theorem clone_nil (w : World) : Calls Tryz.prog 84 #[.slice none 0 0] w (RetQ w (.slice none 0 0)) :=
  (AnyE.slices_Clone_nil Tryz.laysSlE041_f84 0 0 w).mono fun _ _ ⟨he, hw⟩ => ⟨he, hw.symm⟩
theorem sort_nil (w : World) (fv : Value) : Calls Tryz.prog 85 #[.slice none 0 0, fv] w (RetQ w (.tuple #[])) :=
  (AnyF.slices_SortFunc_none Tryz.laysSlF06_f85 none 0 fv w).mono fun _ _ ⟨he, hw⟩ => ⟨he, hw.symm⟩
theorem compact_nil (w : World) : Calls Tryz.prog 89 #[.slice none 0 0] w (RetQ w (.slice none 0 0)) := by
  go_enter Tryz.func89, Tryz.ntmps89
  go_wp2_with fail
  go_ret
  exact ⟨rfl, rfl⟩
theorem clone_some (B g n c : Nat) (rs : List RowT) (w : World) (h : OwnG encR 76 w B (.slice (some ⟨g, 0, none⟩) n c) rs) (hn : rs.length ≤ 4194304) :
    Calls Tryz.prog 84 #[.slice (some ⟨g, 0, none⟩) n c] w fun e w' => ∃ g' cap, e = .returned (.slice (some ⟨g', 0, none⟩) rs.length cap) ∧ OwnG encR 76 w' w.heap.size (.slice (some ⟨g', 0, none⟩) rs.length cap) rs ∧ Below w.heap.size w w' := by
  obtain ⟨-, -, hnl, -⟩ := own_cap h
  subst hnl
  obtain ⟨i0, hi, hz0, hz1, hz2⟩ := info_parts row_info
  have hbig : rs.length * 24 ≤ 140737488355328 := by omega
  refine (AnyE.slices_Clone Tryz.laysSlE041_f84 i0 _ 2 24 hi hz0 hz1 hz2 rfl (by omega) Tryz.sizeOf76 g 0 rs.length c (encR.cells rs) w (encR.cells_length rs) (by unfold maxLen; omega) hbig (fun j u hj => ?_) (encR.cells_one rs)).mono ?_
  · have hjl : j < rs.length * 2 := by
      have := (List.getElem?_eq_some_iff.1 hj).1
      rw [encR.cells_length] at this; exact this
    obtain ⟨h1, -⟩ := h.at_ (j := j / 2) (by omega)
    have h2 := h1 (j % 2) (by show j % 2 < 2; omega)
    have h3 := encR.cells_get (xs := rs) (j := j / 2) (i := j % 2) (by omega) (by show j % 2 < 2; omega)
    rw [show j / 2 * encR.k + j % 2 = j by show j / 2 * 2 + j % 2 = j; omega] at h2 h3
    rw [Nat.zero_add, h2, ← h3, hj]
  · rintro e w' ⟨v', rfl, ho, hne, hb⟩
    have ho' : OwnG encR 76 w' w.heap.size v' rs := ho
    rcases ho'.2 with ⟨h1, h2⟩ | ⟨g', cap', cur, hv, _⟩
    · rw [h2] at ho
      exact absurd h1 hne
    · subst hv
      exact ⟨g', cap', rfl, ho', hb⟩

set_option maxRecDepth 100000 in
set_option maxHeartbeats 2000000 in
theorem madeTable_nil (k : Int) (w : World) : Calls Tryz.prog 52 #[.int .i64 k, .slice none 0 0] w (RetMt w k (madeT k [])) := by
  have hmo : madeOf [] = [] := by
    have := madeOf_len []
    exact List.eq_nil_of_length_eq_zero (by simpa using this)
  have hk1 := Blk.new w 35 #[.int .i64 0, .slice none 0 0]
  have hz0 : w.heap.size < (w.alloc (.cells #[.int .i64 0, .slice none 0 0] 35)).heap.size := by simp
  cases hT : tabB k [] with
  | false =>
    have HN : Hid (madeT k [] = none) := Lib.hid (by simp [madeT, hmo, hT])
    have CT := Lib.hid (fun W => IsTable_b (S := fun _ => True) (.slice none 0 0) k [] false W SlR.nil hT)
    clear hT hmo hk1 hz0
    go_enter Tryz.func52, Tryz.ntmps52
    go_wp2_with (first
      | (go_at_call 84; refine (clone_nil _).mono ?_; rintro e w' ⟨rfl, rfl⟩)
      | (go_at_call 85; refine (sort_nil _ _).mono ?_; rintro e w' ⟨rfl, rfl⟩)
      | (go_at_call 89; refine (compact_nil _).mono ?_; rintro e w' ⟨rfl, rfl⟩))
    refine (CT.out _).mono ?_
    rintro e w1 ⟨rfl, hb1⟩
    obtain ⟨k0, k1⟩ := box2b hb1
    have HB1 := Lib.hid ((((Below.refl w.heap.size w).alloc (Nat.le_refl _) (.cells #[.int .i64 0, .slice none 0 0] 35)).alloc (by simp) (.cells #[.int .i64 k, .slice none 0 0] 35)).trans (hb1.mono (by simp; omega)))
    have kc := k0.cell
    have kf := k0.free
    have hc1 := ((k0.put 0 (.int .i64 0)).put 1 (.slice none 0 0)).cell
    clear k0 k1 hb1
    go_wp2_with fail
    refine bodyPost_ret (v := .tuple #[.agg #[.int .i64 0, .slice none 0 0], .bool false]) (by simp [results, Tryz.results52, go_sem, hc1]) rfl (RetMt.no HN.out ((HB1.out.setCell (by simp) _).setCell (by simp) _))
  | true =>
    have HN : Hid (madeT k [] = some []) := Lib.hid (by simp [madeT, hmo, hT])
    have CT := Lib.hid (fun W => IsTable_b (S := fun _ => True) (.slice none 0 0) k [] true W SlR.nil hT)
    clear hT hmo hk1 hz0
    go_enter Tryz.func52, Tryz.ntmps52
    go_wp2_with (first
      | (go_at_call 84; refine (clone_nil _).mono ?_; rintro e w' ⟨rfl, rfl⟩)
      | (go_at_call 85; refine (sort_nil _ _).mono ?_; rintro e w' ⟨rfl, rfl⟩)
      | (go_at_call 89; refine (compact_nil _).mono ?_; rintro e w' ⟨rfl, rfl⟩))
    refine (CT.out _).mono ?_
    rintro e w1 ⟨rfl, hb1⟩
    obtain ⟨k0, k1⟩ := box2b hb1
    have HB1 := Lib.hid ((((Below.refl w.heap.size w).alloc (Nat.le_refl _) (.cells #[.int .i64 0, .slice none 0 0] 35)).alloc (by simp) (.cells #[.int .i64 k, .slice none 0 0] 35)).trans (hb1.mono (by simp; omega)))
    have kc := k0.cell
    have kf := k0.free
    have kd := k1.cell
    have hc1 := ((k0.put 0 (.int .i64 k)).put 1 (.slice none 0 0)).cell
    clear k0 k1 hb1
    go_wp2_with fail
    refine bodyPost_ret (v := .tuple #[.agg #[.int .i64 k, .slice none 0 0], .bool true]) (by simp [results, Tryz.results52, go_sem, hc1]) rfl (RetMt.yes HN.out rfl ((HB1.out.setCell (by simp) _).setCell (by simp) _) OwnG.nil)

set_option maxRecDepth 100000 in
set_option maxHeartbeats 2000000 in
theorem madeTable_some (k : Int) (B g n c : Nat) (rs : List RowT) (w : World) (h : OwnG encR 76 w B (.slice (some ⟨g, 0, none⟩) n c) rs) (hn : rs.length ≤ 4194304) :
    Calls Tryz.prog 52 #[.int .i64 k, .slice (some ⟨g, 0, none⟩) n c] w (RetMt w k (madeT k rs)) := by
  have HO := Lib.hid h
  have HA0 := Lib.hid ((Below.refl w.heap.size w).alloc (Nat.le_refl _) (.cells #[.int .i64 0, .slice none 0 0] 35))
  have HK0 := Lib.hid (Blk.new w 35 #[.int .i64 0, .slice none 0 0])
  clear h
  obtain ⟨d, hd⟩ : ∃ d, d = rs.mergeSort fun x y => !ltR y x := ⟨_, rfl⟩
  have hdl : d.length = rs.length := by rw [hd, List.length_mergeSort]
  have HDL := Lib.hid hdl
  have HM : Hid (madeOf rs = ddR d) := Lib.hid (by rw [hd]; rfl)
  have HD := Lib.hid hd
  clear hd hdl
  go_enter Tryz.func52, Tryz.ntmps52
  go_wp2_with fail
  refine (clone_some B g n c rs _ (HO.out.below HA0.out) hn).mono ?_
  rintro e w1 ⟨g1, cap, rfl, ho1, hb1⟩
  simp only [World.size_alloc] at ho1
  have hg1 := (own_cap ho1).2.2.2
  have HO1 := Lib.hid ho1
  have HK1 := Lib.hid (HK0.out.below hb1)
  have HB1 := Lib.hid (HA0.out.trans (hb1.mono (by simp)))
  clear ho1 hb1
  go_wp2_with fail
  refine (sortRows_any _ g1 cap rs w1 HO1.out hn).mono ?_
  rintro e w2 ⟨rfl, ho2, hg2⟩
  have hz1 : w.heap.size < w1.heap.size := HK1.out.lt
  rw [← HD.out] at ho2
  have HO2 : Hid (OwnG encR 76 w2 (w.heap.size + 1) (.slice (some ⟨g1, 0, none⟩) d.length cap) d) := Lib.hid (by rw [HDL.out]; exact ho2)
  have HK2 : Hid (Blk w2 w.heap.size 35 #[.int .i64 0, .slice none 0 0]) := Lib.hid ((hg2.block _ hz1 (fun e => by cases e; omega)).trans HK1.out)
  have HB2 : Hid (Below w.heap.size w w2) := Lib.hid (HB1.out.grown hg2 (by omega) (fun k hk => by cases hk; omega))
  have hz2 : w1.heap.size ≤ w2.heap.size := hg2.size
  clear ho2 hg2
  have hcc := compact_any (w.heap.size + 1) g1 cap d w2 HO2.out
  rw [HDL.out] at hcc
  have HCC := Lib.hid hcc
  clear hcc
  go_wp2_with fail
  refine HCC.out.mono ?_
  rintro e w3 ⟨rfl, ho3, hg3⟩
  rw [← HM.out] at ho3 ⊢
  have HO3 := Lib.hid ho3
  have HK3 : Hid (Blk w3 w.heap.size 35 #[.int .i64 0, .slice none 0 0]) := Lib.hid ((hg3.block _ (by omega) (fun e => by cases e; omega)).trans HK2.out)
  have HB3 : Hid (Below w.heap.size w w3) := Lib.hid (HB2.out.grown hg3 (by omega) (fun k hk => by cases hk; omega))
  have hz3 : w2.heap.size ≤ w3.heap.size := hg3.size
  obtain ⟨m, hm⟩ : ∃ m, m = madeOf rs := ⟨_, rfl⟩
  rw [← hm] at HO3 ⊢
  have HMM := Lib.hid hm
  clear ho3 hg3 HCC hm
  have hb4 : Below w3.heap.size w3 (w3.alloc (.cells #[.int .i64 k, .slice (some ⟨g1, 0, none⟩) m.length cap] 35)) := (Below.refl _ _).alloc (Nat.le_refl _) _
  have HO4 := Lib.hid (HO3.out.below hb4)
  have HK4 := Lib.hid (HK3.out.below hb4)
  have HB4 : Hid (Below w.heap.size w _) := Lib.hid (HB3.out.trans (hb4.mono (by omega)))
  have HN4 := Lib.hid (Blk.new w3 35 #[.int .i64 k, .slice (some ⟨g1, 0, none⟩) m.length cap])
  clear hb4
  cases hT : tabB k m with
  | false =>
    have HN : Hid (madeT k rs = none) := Lib.hid (by rw [madeT, ← HMM.out, hT]; rfl)
    have CT := Lib.hid (fun W (hW : SlR encR W (fun b => w.heap.size + 1 ≤ b) (.slice (some ⟨g1, 0, none⟩) m.length cap) m) => IsTable_b _ k m false W hW hT)
    clear hT
    go_wp2_with fail
    refine (CT.out _ HO4.out.slrB).mono ?_
    rintro e w5 ⟨rfl, hb5⟩
    have HK5 := Lib.hid (HK4.out.below hb5)
    have HN5 := Lib.hid (HN4.out.below hb5)
    have HO5 := Lib.hid (HO4.out.below hb5)
    have HB5 := Lib.hid (Below.then_ HB4.out hb5)
    have kc := HK5.out.cell
    have kf := HK5.out.free
    have kn := HN5.out.cell
    have hc1 := ((HK5.out.put 0 (.int .i64 0)).put 1 (.slice none 0 0)).cell
    clear hb5
    go_wp2_with fail
    refine bodyPost_ret (v := .tuple #[.agg #[.int .i64 0, (.slice none 0 0)], .bool false]) (by simp [results, Tryz.results52, go_sem, hc1]) rfl (RetMt.no HN.out ((HB5.out.setCell (by simp) _).setCell (by simp) _))
  | true =>
    have HN : Hid (madeT k rs = some m) := Lib.hid (by rw [madeT, ← HMM.out, hT]; rfl)
    have CT := Lib.hid (fun W (hW : SlR encR W (fun b => w.heap.size + 1 ≤ b) (.slice (some ⟨g1, 0, none⟩) m.length cap) m) => IsTable_b _ k m true W hW hT)
    clear hT
    go_wp2_with fail
    refine (CT.out _ HO4.out.slrB).mono ?_
    rintro e w5 ⟨rfl, hb5⟩
    have HK5 := Lib.hid (HK4.out.below hb5)
    have HN5 := Lib.hid (HN4.out.below hb5)
    have HO5 := Lib.hid (HO4.out.below hb5)
    have HB5 := Lib.hid (Below.then_ HB4.out hb5)
    have kc := HK5.out.cell
    have kf := HK5.out.free
    have kn := HN5.out.cell
    have hc1 := ((HK5.out.put 0 (.int .i64 k)).put 1 (.slice (some ⟨g1, 0, none⟩) m.length cap)).cell
    clear hb5
    go_wp2_with fail
    refine bodyPost_ret (v := .tuple #[.agg #[.int .i64 k, (.slice (some ⟨g1, 0, none⟩) m.length cap)], .bool true]) (by simp [results, Tryz.results52, go_sem, hc1]) rfl (RetMt.yes HN.out rfl ((HB5.out.setCell (by simp) _).setCell (by simp) _) ((HO5.out.mono (by omega)).keepB fun b hb => by have := HO5.out.lt b hb; rw [Below.heap_setCell _ _ _ _ (by simp; omega), Below.heap_setCell _ _ _ _ (by simp; omega)]))
end Go.Proofs.YtjoimponfeofkaaGreat

namespace Go.Proofs.YtjoimponfeofkaaGreat

/-- the rows of a network's nodes with outputs -/
def ofRows (N : Net) (D : Nat) (outs : List Int) : List RowT := (List.range N.ends.length).map fun v => (vtx N D v, gi outs v)
theorem ofRows_len (N : Net) (D : Nat) (outs : List Int) : (ofRows N D outs).length = N.ends.length := by simp [ofRows]
theorem ofRows_take (N : Net) (D : Nat) (outs : List Int) {j : Nat} (h : j < N.ends.length) : (ofRows N D outs).take (j + 1) = (ofRows N D outs).take j ++ [(vtx N D j, gi outs j)] := by
  rw [List.take_succ_eq_append_getElem (by rw [ofRows_len]; exact h)]
  simp [ofRows]
/-- the table of outputs, if there is one -/
noncomputable def ofT (N : Net) (D : Nat) (outs : List Int) : Option (List RowT) :=
  if ∀ v, v < N.ends.length → (ntx N D v).length ≤ 4000 then madeT D (ofRows N D outs) else none
theorem ofT_long {N : Net} {D : Nat} {outs : List Int} {j : Nat} (hj : j < N.ends.length) (h : 4000 < (ntx N D j).length) : ofT N D outs = none := by
  unfold ofT
  rw [if_neg (fun h2 => by have := h2 j hj; omega)]
theorem ofT_fits {N : Net} {D : Nat} {outs : List Int} (h : ∀ v, v < N.ends.length → (ntx N D v).length ≤ 4000) : ofT N D outs = madeT D (ofRows N D outs) := by
  unfold ofT
  rw [if_pos h]
theorem putAll_cut {rows : List RowT} {j : Nat} (h : putAll [] (rows.take j) = none) : putAll [] rows = none := by
  have key : ∀ (xs ys acc : List RowT), putAll acc xs = none → putAll acc (xs ++ ys) = none := by
    intro xs
    induction xs with
    | nil => intro ys acc h; simp [putAll] at h
    | cons x xs ih =>
      intro ys acc h
      simp only [putAll, List.cons_append] at h ⊢
      cases hp : putR x acc with
      | none => rfl
      | some a => rw [hp] at h; exact ih ys a h
  have := key _ (rows.drop j) [] h
  rwa [List.take_append_drop] at this
theorem madeT_put (k : Int) (rows : List RowT) : madeT k rows = (putAll [] rows).bind fun m => if tabB k m = true then some m else none := by
  obtain ⟨h1, h2⟩ := made_put (madeOf_made rows)
  unfold madeT
  cases hp : putAll [] rows with
  | none =>
    rw [if_neg (fun ht => h2 hp (tabB_iff.1 ht).2.2.2)]; rfl
  | some m =>
    obtain ⟨rfl, -⟩ := h1 m hp
    rfl
theorem ofT_stop {N : Net} {D : Nat} {outs : List Int} {j : Nat} (h : putAll [] ((ofRows N D outs).take j) = none) : ofT N D outs = none := by
  unfold ofT
  split
  · rw [madeT_put, putAll_cut h]; rfl
  · rfl
theorem ofT_put {N : Net} {D : Nat} {outs : List Int} {m : List RowT} (hf : ∀ v, v < N.ends.length → (ntx N D v).length ≤ 4000) (h : putAll [] (ofRows N D outs) = some m) : ofT N D outs = if tabB D m = true then some m else none := by
  rw [ofT_fits hf, madeT_put, h]; rfl
theorem ofT_step {N : Net} {D : Nat} {outs : List Int} {j : Nat} {acc : List RowT} (hj : j < N.ends.length) (h : putAll [] ((ofRows N D outs).take j) = some acc) :
    putAll [] ((ofRows N D outs).take (j + 1)) = putR (vtx N D j, gi outs j) acc := by
  rw [ofRows_take N D outs hj, putAll_snoc, h]; rfl

/-- the answer of TableOf -/
noncomputable def tofT (N : Net) (D : Int) (outs : List Int) : Option (List RowT) :=
  if (goodB N && inB D 0 4 && (decide (outs.length = N.ends.length) && allB outs 0 99)) = true then ofT N D.toNat outs else none
end Go.Proofs.YtjoimponfeofkaaGreat

namespace Go.Proofs.YtjoimponfeofkaaGreat
open Go.RowKit

theorem box3_ {w w' : World} {a b c : Array Value} {t t' t'' : TypeId} (hb : Below (((w.alloc (.cells a t)).alloc (.cells b t')).alloc (.cells c t'')).heap.size (((w.alloc (.cells a t)).alloc (.cells b t')).alloc (.cells c t'')) w') :
    Below w.heap.size w w' := Below.then_ ((((Below.refl _ _).alloc (Nat.le_refl _) _).alloc (by simp) _).alloc (by simp; omega) _) hb

set_option maxRecDepth 100000 in
set_option maxHeartbeats 1000000 in
theorem taIf_any {S : Nat → Prop} (v : Value) (D : Int) (rows : List RowT) (w : World) (h : SlR encR w S v rows) (hS : ∀ b, S b → w.heap.size ≤ b ∨ True) :
    Calls Tryz.prog 75 #[.agg #[.int .i64 D, v]] w (fun e w' => Below w.heap.size w w' ∧ if tabB D rows = true then e = .returned (.tuple #[.agg #[.int .i64 D, v], .bool true]) else e = .returned (.tuple #[.agg #[.int .i64 0, .slice none 0 0], .bool false])) := by
  have HR := Lib.hid h
  obtain ⟨A, c, rfl, -, -, -⟩ := h
  have hb0 : ∀ o1 o2, Below w.heap.size w ((w.alloc o1).alloc o2) := fun o1 o2 => ((Below.refl _ _).alloc (Nat.le_refl _) _).alloc (by simp) _
  have HB0 := Lib.hid hb0
  clear hb0 hS
  cases hT : tabB D rows with
  | false =>
    have CT := Lib.hid (fun W (hW : Below w.heap.size w W) => taGood_b _ D rows false W (HR.out.below hW) hT)
    clear hT
    go_enter Tryz.func75, Tryz.ntmps75
    go_wp2_with fail
    refine (CT.out _ (HB0.out _ _)).mono ?_
    rintro e w1 ⟨rfl, hb1⟩
    obtain ⟨k0, k1⟩ := box2b hb1
    have hc := ((k1.put 0 (.int .i64 0)).put 1 (.slice none 0 0)).cell
    have kf := k1.free
    have kc := k1.cell
    have HB1 := Lib.hid ((((HB0.out _ _).trans (hb1.mono (HB0.out _ _).size)).setCell (p := ⟨w.heap.size + 1, 0, none⟩) (by simp) (.int .i64 0)).setCell (p := ⟨w.heap.size + 1, 1, none⟩) (by simp) (.slice none 0 0))
    clear hb1 k0 k1
    go_wp2_with fail
    refine bodyPost_ret (v := .tuple #[.agg #[.int .i64 0, .slice none 0 0], .bool false]) (by simp [results, Tryz.results75, go_sem, hc]) rfl ⟨HB1.out, ?_⟩
    simp
  | true =>
    have CT := Lib.hid (fun W (hW : Below w.heap.size w W) => taGood_b _ D rows true W (HR.out.below hW) hT)
    clear hT
    go_enter Tryz.func75, Tryz.ntmps75
    go_wp2_with fail
    refine (CT.out _ (HB0.out _ _)).mono ?_
    rintro e w1 ⟨rfl, hb1⟩
    obtain ⟨k0, k1⟩ := box2b hb1
    have hc := ((k1.put 0 (.int .i64 D)).put 1 (.slice A rows.length c)).cell
    have kf := k1.free
    have kc := k1.cell
    have kd := k0.cell
    have HB1 := Lib.hid ((((HB0.out _ _).trans (hb1.mono (HB0.out _ _).size)).setCell (p := ⟨w.heap.size + 1, 0, none⟩) (by simp) (.int .i64 D)).setCell (p := ⟨w.heap.size + 1, 1, none⟩) (by simp) (.slice A rows.length c))
    clear hb1 k0 k1
    go_wp2_with fail
    refine bodyPost_ret (v := .tuple #[.agg #[.int .i64 D, .slice A rows.length c], .bool true]) (by simp [results, Tryz.results75, go_sem, hc]) rfl ⟨HB1.out, ?_⟩
    simp

theorem empty_iff (s : ByteArray) : s.toList.isEmpty = true ↔ s.size = 0 := by
  rw [List.isEmpty_iff_length_eq_zero, Lib.toList_data]
  simp
set_option maxRecDepth 100000 in
set_option maxHeartbeats 4000000 in
theorem taOf_any {S T : Nat → Prop} (vN vo : Value) (N : Net) (D : Nat) (outs : List Int) (w : World) (hN : NetR w S vN N) (ho : IntsR w T vo outs) (hg : goodB N = true) (hl : outs.length = N.ends.length) (hD : D ≤ 1000) :
    Calls Tryz.prog 48 #[vN, .int .i64 (D : Nat), vo] w (RetCs w D (ofT N D outs)) := by
  have HN := Lib.hid hN
  have hne := good_some hg
  have hn40 : N.ends.length ≤ 40 := (good_row hg hne).2.2.1
  have HV := Lib.hid (fun W (hW : Below w.heap.size w W) => viTexts_any _ N D W (HN.out.below hW) hg hD hne)
  obtain ⟨ve, vi, vn, rfl, -, -, -⟩ := hN
  obtain ⟨Ao, co, rfl, -, -, hxo⟩ := ho
  obtain ⟨bo, offo, rfl, -, hco⟩ := hxo (by omega)
  have HCO := Lib.hid hco
  rw [hl] at HCO ⊢
  clear hxo hco hg
  go_enter Tryz.func48, Tryz.ntmps48
  go_wp2_with fail
  refine (HV.out _ ((((Below.refl _ _).alloc (Nat.le_refl _) _).alloc (by simp) _).alloc (by simp only [World.size_alloc]; omega) _)).mono ?_
  rintro e wv ⟨At, ct, rfl, hot, hb1⟩
  have HB1 := Lib.hid (box3_ hb1)
  have HK1 := Lib.hid (box3 hb1)
  have HOT := Lib.hid (hot.mono (B' := w.heap.size + 3) (by simp only [World.size_alloc]; omega))
  clear hb1 hot
  go_wp2_with fail
  obtain ⟨gn, hgn⟩ : ∃ gn, gn = w.heap.size + 1 + 1 := ⟨_, rfl⟩
  have hgz : w.heap.size + 1 < gn := by omega
  rw [← hgn] at HK1
  rw [← hgn]
  have HGN := Lib.hid hgn
  clear hgn
  go_loopw [19] (fun x wr => ∃ (j : Nat) (acc : List RowT) (A : Option Addr) (c : Nat), j ≤ N.ends.length ∧ x = .int .i64 j ∧ putAll [] ((ofRows N D outs).take j) = some acc ∧ acc.length ≤ j ∧ (∀ i, i < j → (ntx N D i).length ≤ 4000) ∧ Blk wr (w.heap.size + 1) 35 #[.int .i64 0, .slice none 0 0] ∧
      Blk wr gn 35 #[.int .i64 (D : Nat), .slice A acc.length c] ∧ SlR encR wr (fun b => w.heap.size ≤ b ∧ b ≠ gn ∧ b ≠ w.heap.size + 1) (.slice A acc.length c) acc ∧
      OwnG encS 9 wr (w.heap.size + 3) (.slice At N.ends.length ct) ((List.range N.ends.length).map (vtx N D)) ∧ Below w.heap.size w wr) (fun x _ => N.ends.length - (intOf x).toNat)
  case atStart => exact ⟨0, [], none, 0, Nat.zero_le _, rfl, rfl, Nat.le_refl _, fun i hi => absurd hi (Nat.not_lt_zero _), HK1.out.2.1, HK1.out.2.2, SlR.nil, HOT.out, HB1.out⟩
  case round =>
    obtain ⟨j, acc, Aa, ca, hj, rfl, hacc, hal, hfit, hkz, hkn, hsl, hot, hbel⟩ := hrel
    have HACC := Lib.hid hacc
    have HFIT := Lib.hid hfit
    have HKZ := Lib.hid hkz
    have HKN := Lib.hid hkn
    have HSL := Lib.hid hsl.sized
    have HOX := Lib.hid hot
    have HB := Lib.hid hbel
    clear hacc hfit hkz hsl hot
    by_cases hlt : j < N.ends.length
    · obtain ⟨gt, ctt, hvt, -, hgt, -, -⟩ := HOX.out.addr (by simp; omega)
      simp only [Value.slice.injEq, List.length_map, List.length_range, true_and] at hvt
      obtain ⟨rfl, rfl⟩ := hvt
      have q3 : wr.cell? ⟨gt, j, none⟩ = some (.string (vtx N D j)) := by
        have := (HOX.out.at_ (j := j) (by simp; omega)).1 0 (by decide)
        rw [show j * encS.k + 0 = j by show j * 1 + 0 = j; omega] at this
        rw [this]
        simp [encS, ga, hlt]
      have c0 := HCO.out j (by omega)
      have hbo := lt_of_cell c0
      have i0 : (0 : Int) ≤ (j : Int) := by omega
      have i1 : (j : Int) < (N.ends.length : Int) := by omega
      have HVE : Hid ((vtx N D j).size = 0 ↔ 4000 < (ntx N D j).length) := Lib.hid vtx_empty
      have HPA := Lib.hid (ofT_step (D := D) (outs := outs) hlt HACC.out)
      have hkn2 := hkn.lt
      have kn0 := hkn.cell
      have HKS : Hid (∀ W, Below wr.heap.size wr W → (W.cell? ⟨gn, 0, none⟩ = some (.int .i64 (D : Nat)) ∧ W.cell? ⟨gn, 1, none⟩ = some (.slice Aa acc.length ca)) ∧ W.cell? ⟨bo, offo + j, none⟩ = some (.int .i64 (gi outs j))) := Lib.hid fun W hW => by
        refine ⟨⟨?_, ?_⟩, ?_⟩
        · rw [(HKN.out.below hW).cell]; rfl
        · rw [(HKN.out.below hW).cell]; rfl
        · rw [hW.cell (by have := HB.out.size; show bo < _; omega), HB.out.cell (by exact hbo)]; exact c0
      obtain ⟨z, hz⟩ : ∃ z, z = gi outs j := ⟨_, rfl⟩
      rw [← hz] at HPA HKS
      generalize vtx N D j = tv at q3 HVE HPA
      clear hbel hkn hz c0
      go_upto_region 5 with (fail)
      go_cut [11, 12] (fun gp ok W => PutV (fun b => w.heap.size ≤ b ∧ b ≠ gn ∧ b ≠ w.heap.size + 1) D wr (putR (tv, z) acc) gp ok W)
      case first =>
       go_region_held3 (fun W => (W.cell? ⟨gn, 0, none⟩ = some (.int .i64 (D : Nat)) ∧ W.cell? ⟨gn, 1, none⟩ = some (.slice Aa acc.length ca)) ∧ W.cell? ⟨bo, offo + j, none⟩ = some (.int .i64 z))
        ((refine HKS.out _ ?_; repeat (first | with_reducible exact hbc' | with_reducible exact Below.refl _ _ | with_reducible refine Below.drew ?_ | with_reducible refine Below.alloc_ ?_ _ | with_reducible refine Below.set_ ?_ ?_ _ | exact hbc'.size | exact Nat.le_refl _)))
        (first
          | (go_at_call 74; refine (taPut_any (S := fun b => (w.heap.size ≤ b ∧ b ≠ gn ∧ b ≠ w.heap.size + 1) ∧ b < wr.heap.size) _ (D : Nat) acc tv z _ (HSL.out.below (by repeat (first | with_reducible exact Below.refl _ _ | with_reducible refine Below.drew ?_ | with_reducible refine Below.alloc_ ?_ _))) (by omega)).mono ?_; intro e wc hpt; obtain ⟨A5, n5, c5, ok5, rfl, hbc, hres5⟩ := hpt.out; clear hpt; (try have KC : Blk wc wr.heap.size 35 #[.int .i64 0, .slice none 0 0] := (hbc.block _ (by show wr.heap.size < (wr.alloc (.cells #[.int .i64 0, .slice none 0 0] 35)).heap.size; simp)).trans (Blk.new wr _ _)); (try have kc := KC.cell); (try have kcf := KC.free); have hbc' : Below wr.heap.size wr wc := (Below.then_ (by repeat (first | with_reducible exact Below.refl _ _ | with_reducible refine Below.drew ?_ | with_reducible refine Below.alloc_ ?_ _)) hbc); have hgnc : gn < wc.heap.size := (by have := hbc'.size; omega)))
       all_goals
        have HWS : Hid (w.heap.size ≤ wr.heap.size) := Lib.hid HB.out.size
        have hbs := hbc'.size
        have hws := HWS.out
        go_wp2_with fail
        go_meet
        first
          | exact PutV.mk' hres5 (fun b h => by have h' : wr.heap.size ≤ b := h; omega) (Blk.new wc _ _) (hbc'.alloc hbc'.size _) (fun b _ h => Below.heap_alloc wc _ b h) (by simp)
          | exact PutV.mk' hres5 (fun b h => by have h' : wr.heap.size ≤ b := Nat.le_trans (by show wr.heap.size ≤ (wr.alloc (.cells #[.int .i64 0, .slice none 0 0] 35)).heap.size; simp) h; omega) ((KC.put 0 _).put 1 _) (Below.set_ (Below.set_ hbc' (by simp) _) (by simp) _) (fun b hb h => by
              have hb' : b ≠ wr.heap.size := by
                rcases hb with h1 | h1
                · omega
                · have h2 : (wr.alloc (.cells #[.int .i64 0, .slice none 0 0] 35)).heap.size ≤ b := h1
                  simp only [World.size_alloc] at h2; omega
              rw [Below.heap_setCell _ _ _ _ hb', Below.heap_setCell _ _ _ _ hb']) (by simp [World.setCell])
      case rest =>
      obtain ⟨g, A5, n5, c5, okb, rfl, rfl, hk, hb, hm⟩ := hcut
      have HBW2 := Lib.hid (HB.out.trans (hb.mono HB.out.size))
      have HKZ2 := Lib.hid (HKZ.out.below hb)
      have HKN2 := Lib.hid (HKN.out.below hb)
      have HOX2 := Lib.hid (HOX.out.below hb)
      have kg := hk.cell
      have HK := Lib.hid hk
      have hc1 := ((HKZ2.out.put 0 (.int .i64 0)).put 1 (.slice none 0 0)).cell
      have kz := HKZ2.out.cell
      have kzf := HKZ2.out.free
      have HB9 := Lib.hid ((HBW2.out.setCell (p := ⟨w.heap.size + 1, 0, none⟩) (by simp) (.int .i64 0)).setCell (p := ⟨w.heap.size + 1, 1, none⟩) (by simp) (.slice none 0 0))
      have hbk := HB.out.size
      clear hk hb kn0
      by_cases hlong : 4000 < (ntx N D j).length
      · have HV := Lib.hid (ofT_long (D := D) (outs := outs) hlt hlong)
        have e1 : tv.toList.isEmpty = true := (empty_iff tv).2 (HVE.out.2 hlong)
        clear hlong
        go_wp2_with fail
        exact bodyPost_ret (v := .tuple #[.agg #[.int .i64 0, .slice none 0 0], .bool false]) (by simp [results, Tryz.results48, go_sem, hc1]) rfl (RetCs.no HV.out HB9.out)
      · have HFJ : Hid (∀ i, i < j + 1 → (ntx N D i).length ≤ 4000) := Lib.hid fun i hi => by
          rcases Nat.lt_or_ge i j with h2 | h2
          · exact HFIT.out i h2
          · obtain rfl : i = j := by omega
            omega
        have e1 : tv.toList.isEmpty = false := by rw [← Bool.not_eq_true]; intro h; exact hlong (HVE.out.1 ((empty_iff tv).1 h))
        clear hlong
        cases hp : putR (tv, z) acc with
        | none =>
          rw [hp] at hm
          have hm : okb = false := hm
          subst hm
          have HV : Hid (ofT N D outs = none) := Lib.hid (ofT_stop (j := j + 1) (HPA.out.trans hp))
          clear hp kg
          go_wp2_with fail
          exact bodyPost_ret (v := .tuple #[.agg #[.int .i64 0, .slice none 0 0], .bool false]) (by simp [results, Tryz.results48, go_sem, hc1]) rfl (RetCs.no HV.out HB9.out)
        | some m =>
          rw [hp] at hm
          obtain ⟨rfl, rfl, hs⟩ := hm
          have HS5 := Lib.hid hs
          have HML := Lib.hid (putR_len hp)
          have HP2 := Lib.hid (HPA.out.trans hp)
          have kn := HKN2.out.cell
          have knf := HKN2.out.free
          clear hp hs hc1 kz kzf
          go_wp2_with fail
          go_roundw
          case rel =>
            exact ⟨j + 1, m, A5, c5, by omega, by go_num, HP2.out, by have := HML.out; omega, HFJ.out, (HKZ2.out.far (p := ⟨gn, 0, none⟩) (by simp; omega) _).far (p := ⟨gn, 1, none⟩) (by simp; omega) _, (HKN2.out.put 0 _).put 1 _,
              ((HS5.out.far_ (p := ⟨gn, 0, none⟩) (fun b h => h.2.1) _).far_ (p := ⟨gn, 1, none⟩) (fun b h => h.2.1) _), (HOX2.out.keepB fun b hb => by have := HOX2.out.lt b hb; have := HGN.out; rw [Below.heap_setCell _ _ _ _ (by simp; omega), Below.heap_setCell _ _ _ _ (by simp; omega)]), (HBW2.out.setCell (by simp; omega) _).setCell (by simp; omega) _⟩
          case measure => simp [intOf]; omega
    · obtain rfl : j = N.ends.length := by omega
      have hpa : putAll [] (ofRows N D outs) = some acc := by
        have := HACC.out
        rwa [List.take_of_length_le (Nat.le_of_eq (ofRows_len N D outs))] at this
      have HF := Lib.hid (ofT_put (D := D) (outs := outs) HFIT.out hpa)
      have HTI := Lib.hid (taIf_any _ (D : Nat) acc wr HSL.out (fun _ _ => .inr trivial))
      have kn := HKN.out.cell
      have hkn2 := hkn.lt
      clear hpa hbel hkn
      cases ht : tabB D acc with
      | false =>
        rw [ht] at HTI HF
        have HV : Hid (ofT N D outs = none) := Lib.hid HF.out
        clear ht
        go_wp2_with (go_at_call 75; refine HTI.out.mono ?_; rintro e w5 ⟨hb5, rfl⟩; have HB5 := Lib.hid (HB.out.trans (hb5.mono HB.out.size)); have HK5 := Lib.hid (HKZ.out.below hb5); have kz := HK5.out.cell; have kzf := HK5.out.free; clear hb5 kn)
        have hc1 := ((HK5.out.put 0 (.int .i64 0)).put 1 (.slice none 0 0)).cell
        refine bodyPost_ret (v := .tuple #[.agg #[.int .i64 0, .slice none 0 0], .bool false]) (by simp [results, Tryz.results48, go_sem, hc1]) rfl (RetCs.no HV.out ((HB5.out.setCell (by simp) _).setCell (by simp) _))
      | true =>
        rw [ht] at HTI HF
        have HV : Hid (ofT N D outs = some acc) := Lib.hid HF.out
        clear ht
        go_wp2_with (go_at_call 75; refine HTI.out.mono ?_; rintro e w5 ⟨hb5, rfl⟩; have HB5 := Lib.hid (HB.out.trans (hb5.mono HB.out.size)); have HK5 := Lib.hid (HKZ.out.below hb5); have HS5 := Lib.hid (HSL.out.below hb5); have kz := HK5.out.cell; have kzf := HK5.out.free; clear hb5 kn)
        have hc1 := ((HK5.out.put 0 (.int .i64 (D : Nat))).put 1 (.slice Aa acc.length ca)).cell
        refine bodyPost_ret (v := .tuple #[.agg #[.int .i64 (D : Nat), .slice Aa acc.length ca], .bool true]) (by simp [results, Tryz.results48, go_sem, hc1]) rfl ?_
        refine ⟨(HB5.out.setCell (by simp) _).setCell (by simp) _, ?_⟩
        rw [HV.out]
        exact ⟨Aa, ca, rfl, ((HS5.out.far_ (p := ⟨w.heap.size + 1, 0, none⟩) (fun b h => h.1.2.2) _).far_ (p := ⟨w.heap.size + 1, 1, none⟩) (fun b h => h.1.2.2) _).weak fun b h => h.1.1⟩
end Go.Proofs.YtjoimponfeofkaaGreat
