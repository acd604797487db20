/- The program's edges. Printed by gen_pe.py. -/
import Derived.Test.YtkbhbbehidhknaaCJn1
import Derived.Test.YtkbhbbehidhknaaCJn0
import Derived.Deep.DeepCutAuto
namespace Go.Proofs.Ytkbhbbehidhknaa
open Go.RowKit

/-- an edge: its first port, its other one -/
abbrev E4 := Int × Int × Int × Int
def encE4 : Enc E4 := ⟨4, fun r => [.int .i64 r.1, .int .i64 r.2.1, .int .i64 r.2.2.1, .int .i64 r.2.2.2], fun _ => rfl, by omega, fun x v hv => by simp at hv; rcases hv with rfl | rfl | rfl | rfl <;> rfl⟩
theorem elemE4 : Nonempty (ElemT Try.prog encE4 70 73) := ElemT.of (z := .agg #[.int .i64 0, .int .i64 0, .int .i64 0, .int .i64 0]) (n := 4) (bytes := 32) (by kernel_rfl) (by kernel_rfl) rfl rfl (by omega)
theorem SlR.oneE4 {w : World} {g : Nat} {t : TypeId} {a b c d : Int} (h : Blk w g t #[.int .i64 a, .int .i64 b, .int .i64 c, .int .i64 d]) : SlR encE4 w (fun _ => True) (.slice (some ⟨g, 0, none⟩) 1 1) [((a, b, c, d) : E4)] := SlR.one (E := encE4) (x := (a, b, c, d)) h
/-- how many edges have come up: nodes ahead of k, ports of k ahead of j -/
def edgeK (ess : List (List (Int × Int))) (k j : Nat) : Nat := ((List.range k).map fun i => cntE (gl ess i) i).sum + ((List.range j).filter (firstB (gl ess k) k)).length
theorem edgeK_start (ess : List (List (Int × Int))) : edgeK ess 0 0 = 0 := rfl
theorem edgeK_row {ess : List (List (Int × Int))} {k : Nat} : edgeK ess (k + 1) 0 = edgeK ess k (gl ess k).length := by
  unfold edgeK
  rw [List.range_succ, List.map_append, List.sum_append]
  simp [cntE]
theorem edgeK_yes {ess : List (List (Int × Int))} {k j : Nat} (h : firstB (gl ess k) k j = true) : edgeK ess k (j + 1) = edgeK ess k j + 1 := by
  unfold edgeK
  rw [List.range_succ, List.filter_append]
  simp [h]
  omega
theorem edgeK_no {ess : List (List (Int × Int))} {k j : Nat} (h : firstB (gl ess k) k j = false) : edgeK ess k (j + 1) = edgeK ess k j := by
  unfold edgeK
  rw [List.range_succ, List.filter_append]
  simp [h]
theorem edgeK_done (ess : List (List (Int × Int))) : edgeK ess ess.length 0 = edgeN ess := by unfold edgeK edgeN; simp

set_option maxRecDepth 100000 in
set_option maxHeartbeats 4000000 in
theorem edges_any {S : Nat → Prop} (u : Value) (N : Net) (w : World) (h : NetR w S u N) (hl : N.ends.length ≤ 40) (hd : ∀ k, k < N.ends.length → dg N.ends k ≤ 6) :
    Calls Try.prog 47 #[u] w (fun e w' => Below w.heap.size w w' ∧ ∃ (A : Option Addr) (c : Nat) (xs : List E4), xs.length = edgeN N.ends ∧ e = .returned (.slice A xs.length c) ∧ OwnG encE4 73 w' w.heap.size (.slice A xs.length c) xs ∧ xs.length ≤ 240) := by
  have HD := Lib.hid hd
  have HN := Lib.hid h
  obtain ⟨ve, vi, vn, rfl, he, hi, hn⟩ := h
  obtain ⟨A, c, rfl, -, hmc, hx⟩ := he
  obtain ⟨A1, c1, rfl, -, -, -⟩ := hi
  obtain ⟨A2, c2, rfl, -, -, -⟩ := hn
  unfold maxLen at hmc
  have HX := Lib.hid hx
  clear hx
  obtain ⟨wz, hwz⟩ : ∃ wz, wz = w.alloc (.cells #[.slice A N.ends.length c, .slice A1 N.ids.length c1, .slice A2 N.inputs.length c2] 27) := ⟨_, rfl⟩
  have hzs : wz.heap.size = w.heap.size + 1 := by rw [hwz]; simp
  have hbz : Below w.heap.size w wz := by rw [hwz]; exact (Below.refl _ _).alloc (by simp) _
  have HK : Hid (Blk wz w.heap.size 27 #[.slice A N.ends.length c, .slice A1 N.ids.length c1, .slice A2 N.inputs.length c2]) := Lib.hid (by rw [hwz]; exact Blk.new w _ _)
  have HB0 := Lib.hid hbz
  have HZ := Lib.hid hwz
  clear hd hwz hbz
  go_enter Try.func47, Try.ntmps47
  go_upto_region 1 with fail
  rw [← HZ.out]
  clear HZ
  have ka := HK.out.cell
  go_wp2_with fail
  clear ka
  go_loopw [3, 11] (fun x3 x11 wr => ∃ (k : Nat) (Ao : Option Addr) (co : Nat) (xs : List E4), k ≤ N.ends.length ∧ x11 = .int .i64 k ∧ x3 = .slice Ao xs.length co ∧ xs.length = edgeK N.ends k 0 ∧ xs.length ≤ k * 6 ∧ OwnG encE4 73 wr wz.heap.size (.slice Ao xs.length co) xs ∧ Below wz.heap.size wz wr)
    (fun _ x11 _ => N.ends.length - (intOf x11).toNat)
  case atStart => exact ⟨0, none, 0, [], Nat.zero_le _, rfl, rfl, rfl, Nat.le_refl _, OwnG.nil, Below.refl _ _⟩
  case round =>
    obtain ⟨k, Ao, co, xs, hk, rfl, rfl, hxl, hx6, hown, hbel⟩ := hrel
    obtain ⟨wr2, rfl⟩ : ∃ wr2, wr2 = wr := ⟨_, rfl⟩
    have HXL := Lib.hid hxl
    have HOW := Lib.hid hown
    have HBE := Lib.hid hbel
    clear hxl hown hbel
    by_cases hlt : k < N.ends.length
    · obtain ⟨b, off, rfl, -, hrow⟩ := HX.out (by omega)
      obtain ⟨uk, huk, hurk⟩ := hrow k hlt
      obtain ⟨Rk, rck, rfl, -, hrmk, hrrk⟩ := hurk
      have ck : wr2.cell? ⟨b, off + k, none⟩ = some (.slice Rk (gl N.ends k).length rck) := ((Below.then_ HB0.out HBE.out).cell (p := ⟨b, off + k, none⟩) (lt_of_cell huk)).trans huk
      have HRR := Lib.hid hrrk
      have jv1 : (0 : Int) ≤ (k : Int) := by omega
      have jv2 : (k : Int) < (N.ends.length : Int) := by omega
      have hdk := HD.out k hlt
      unfold dg at hdk
      obtain ⟨dk, hdk'⟩ : ∃ dk, dk = (gl N.ends k).length := ⟨_, rfl⟩
      rw [← hdk'] at ck hdk
      have HDK := Lib.hid hdk'
      clear huk hrrk hdk' hrow
      go_wp2_with fail
      clear ck
      go_loopw [3, 18] (fun x3 x18 wi => ∃ (j : Nat) (Ao : Option Addr) (co : Nat) (xs : List E4), j ≤ dk ∧ x18 = .int .i64 j ∧ x3 = .slice Ao xs.length co ∧ xs.length = edgeK N.ends k j ∧ xs.length ≤ k * 6 + j ∧ OwnG encE4 73 wi wz.heap.size (.slice Ao xs.length co) xs ∧ Below wz.heap.size wz wi)
        (fun _ x18 _ => dk - (intOf x18).toNat)
      case atStart => exact ⟨0, Ao, co, xs, Nat.zero_le _, rfl, rfl, HXL.out, by omega, HOW.out, HBE.out⟩
      case round =>
        clear HXL HOW HBE hx6
        obtain ⟨j, Ao, co, xs, hj, rfl, rfl, hxl, hx6, hown, hbel⟩ := hrel
        obtain ⟨wi2, rfl⟩ : ∃ wi2, wi2 = wr := ⟨_, rfl⟩
        have HXL := Lib.hid hxl
        have HOW := Lib.hid hown
        have HBE := Lib.hid hbel
        clear hxl hown hbel
        by_cases hjl : j < dk
        · obtain ⟨q, hq⟩ : ∃ q, q = gp (gl N.ends k) j := ⟨_, rfl⟩
          obtain ⟨bq, oq, rfl, -, hqc⟩ := HRR.out (by rw [← HDK.out]; omega)
          obtain ⟨p1, p2⟩ := hqc j (by rw [← HDK.out]; exact hjl)
          rw [← hq] at p1 p2
          obtain ⟨q1, q2⟩ := q
          have hB := Below.then_ HB0.out HBE.out
          have D1 : wi2.cell? ⟨bq, oq + j * 2, none⟩ = some (.int .i64 q1) := (hB.cell (p := ⟨bq, oq + j * 2, none⟩) (lt_of_cell p1)).trans p1
          have D2 : wi2.cell? ⟨bq, oq + j * 2 + 1, none⟩ = some (.int .i64 q2) := (hB.cell (p := ⟨bq, oq + j * 2 + 1, none⟩) (lt_of_cell p2)).trans p2
          have jw1 : (0 : Int) ≤ (j : Int) := by omega
          have jw2 : (j : Int) < (dk : Int) := by omega
          have HF : Hid (firstB (gl N.ends k) k j = decide ((k : Int) < q1 ∨ ((k : Int) = q1 ∧ (j : Int) ≤ q2))) := Lib.hid (by unfold firstB; rw [← hq])
          have hzb := HBE.out.size
          have kE := (Blk.new wi2 35 #[.int .i64 q1, .int .i64 q2]).cell
          have HBA : Hid (Below wi2.heap.size wi2 (wi2.alloc (.cells #[.int .i64 q1, .int .i64 q2] 35))) := Lib.hid ((Below.refl _ _).alloc (Nat.le_refl _) _)
          clear hqc p1 p2 hB hq
          by_cases c1 : (k : Int) < q1
          ·
            have c1' : (k : Int) < q1 := c1
            have HY : Hid (edgeK N.ends k (j + 1) = edgeK N.ends k j + 1) := Lib.hid (edgeK_yes (by rw [HF.out]; simp [c1']))
            go_upto_region 9 with fail
            have HBB : Hid (Below wi2.heap.size wi2 ((wi2.alloc (.cells #[.int .i64 q1, .int .i64 q2] 35)).alloc (.cells #[.int .i64 (k : Int), .int .i64 (j : Int), .int .i64 q1, .int .i64 q2] 73))) := Lib.hid (HBA.out.alloc (by simp) _)
            have HBK : Hid (Blk ((wi2.alloc (.cells #[.int .i64 q1, .int .i64 q2] 35)).alloc (.cells #[.int .i64 (k : Int), .int .i64 (j : Int), .int .i64 q1, .int .i64 q2] 73)) (wi2.heap.size + 1) 73 #[.int .i64 (k : Int), .int .i64 (j : Int), .int .i64 q1, .int .i64 q2]) := Lib.hid (by
              have := Blk.new (wi2.alloc (.cells #[.int .i64 q1, .int .i64 q2] 35)) 73 #[.int .i64 (k : Int), .int .i64 (j : Int), .int .i64 q1, .int .i64 q2]
              rwa [World.size_alloc] at this)
            go_upto_region 10 with (at_builtin; refine wpList_append_G elemE4 _ rfl (.tmp 39) (.tmp 47) rfl wz.heap.size (.slice Ao xs.length co) xs rfl (HOW.out.below HBB.out) (.slice (some ⟨wi2.heap.size + 1, 0, none⟩) 1 1) [(((k : Int), (j : Int), q1, q2) : E4)] rfl (SlR.oneE4 HBK.out) (by simp; omega) (by simp; omega) ?_; intro A8 c8 w8 ho8 hg8 hl8)
            have HO8 := Lib.hid ho8
            have HB8 := Lib.hid ((HBE.out.trans (HBB.out.mono hzb)).grown hg8 (by simp; omega) (fun q hq => (HOW.out.lt q hq).1))
            clear ho8 hg8 hl8 D1 D2 kE
            go_wp2_with fail
            go_roundw
            case rel => exact ⟨j + 1, A8, c8, xs ++ [((k : Int), (j : Int), q1, q2)], by omega, by go_num, by simp, by rw [List.length_append, HXL.out, HY.out]; rfl, by rw [List.length_append]; simp; omega, by rw [List.length_append]; exact HO8.out, HB8.out⟩
            case measure => simp [intOf]; omega
          by_cases c2 : (k : Int) = q1
          ·
            subst c2
            by_cases c3 : (j : Int) ≤ q2
            ·
              have c3' : (j : Int) ≤ q2 := c3
              have HY : Hid (edgeK N.ends k (j + 1) = edgeK N.ends k j + 1) := Lib.hid (edgeK_yes (by rw [HF.out]; simp [c3']))
              go_upto_region 9 with fail
              have HBB : Hid (Below wi2.heap.size wi2 ((wi2.alloc (.cells #[.int .i64 (k : Int), .int .i64 q2] 35)).alloc (.cells #[.int .i64 (k : Int), .int .i64 (j : Int), .int .i64 (k : Int), .int .i64 q2] 73))) := Lib.hid (HBA.out.alloc (by simp) _)
              have HBK : Hid (Blk ((wi2.alloc (.cells #[.int .i64 (k : Int), .int .i64 q2] 35)).alloc (.cells #[.int .i64 (k : Int), .int .i64 (j : Int), .int .i64 (k : Int), .int .i64 q2] 73)) (wi2.heap.size + 1) 73 #[.int .i64 (k : Int), .int .i64 (j : Int), .int .i64 (k : Int), .int .i64 q2]) := Lib.hid (by
                have := Blk.new (wi2.alloc (.cells #[.int .i64 (k : Int), .int .i64 q2] 35)) 73 #[.int .i64 (k : Int), .int .i64 (j : Int), .int .i64 (k : Int), .int .i64 q2]
                rwa [World.size_alloc] at this)
              go_upto_region 10 with (at_builtin; refine wpList_append_G elemE4 _ rfl (.tmp 39) (.tmp 47) rfl wz.heap.size (.slice Ao xs.length co) xs rfl (HOW.out.below HBB.out) (.slice (some ⟨wi2.heap.size + 1, 0, none⟩) 1 1) [(((k : Int), (j : Int), (k : Int), q2) : E4)] rfl (SlR.oneE4 HBK.out) (by simp; omega) (by simp; omega) ?_; intro A8 c8 w8 ho8 hg8 hl8)
              have HO8 := Lib.hid ho8
              have HB8 := Lib.hid ((HBE.out.trans (HBB.out.mono hzb)).grown hg8 (by simp; omega) (fun q hq => (HOW.out.lt q hq).1))
              clear ho8 hg8 hl8 D1 D2 kE
              go_wp2_with fail
              go_roundw
              case rel => exact ⟨j + 1, A8, c8, xs ++ [((k : Int), (j : Int), (k : Int), q2)], by omega, by go_num, by simp, by rw [List.length_append, HXL.out, HY.out]; rfl, by rw [List.length_append]; simp; omega, by rw [List.length_append]; exact HO8.out, HB8.out⟩
              case measure => simp [intOf]; omega
            ·
              have c3' : ¬ (j : Int) ≤ q2 := c3
              have HY : Hid (edgeK N.ends k (j + 1) = edgeK N.ends k j) := Lib.hid (edgeK_no (by rw [HF.out]; simp [c3']))
              have HO8 := Lib.hid (HOW.out.below HBA.out)
              have HB8 := Lib.hid (HBE.out.trans (HBA.out.mono hzb))
              go_wp2_with fail
              go_roundw
              case rel => exact ⟨j + 1, Ao, co, xs, by omega, by go_num, rfl, by rw [HXL.out, HY.out], by omega, HO8.out, HB8.out⟩
              case measure => simp [intOf]; omega
          ·
            have c2' : ¬ (k : Int) = q1 := c2
            have HY : Hid (edgeK N.ends k (j + 1) = edgeK N.ends k j) := Lib.hid (edgeK_no (by rw [HF.out]; simp [c1, c2']))
            have HO8 := Lib.hid (HOW.out.below HBA.out)
            have HB8 := Lib.hid (HBE.out.trans (HBA.out.mono hzb))
            go_wp2_with fail
            go_roundw
            case rel => exact ⟨j + 1, Ao, co, xs, by omega, by go_num, rfl, by rw [HXL.out, HY.out], by omega, HO8.out, HB8.out⟩
            case measure => simp [intOf]; omega
        · obtain rfl : j = dk := by omega
          have hjx : ¬ ((j : Int) < (j : Int)) := by omega
          have HR2 : Hid (xs.length = edgeK N.ends (k + 1) 0) := Lib.hid (by rw [edgeK_row, ← HDK.out]; exact HXL.out)
          clear hj hjl
          go_wp2_with fail
          go_roundw
          case rel => exact ⟨k + 1, Ao, co, xs, by omega, by go_num, rfl, HR2.out, by omega, HOW.out, HBE.out⟩
          case measure => simp [intOf]; omega
    · obtain rfl : k = N.ends.length := by omega
      have hjx : ¬ ((N.ends.length : Int) < (N.ends.length : Int)) := by omega
      have HB9 := Lib.hid (Below.then_ HB0.out HBE.out)
      go_wp2_with fail
      go_ret
      exact ⟨HB9.out, Ao, co, xs, by rw [HXL.out, edgeK_done], rfl, HOW.out.mono (by omega), by omega⟩
end Go.Proofs.Ytkbhbbehidhknaa
