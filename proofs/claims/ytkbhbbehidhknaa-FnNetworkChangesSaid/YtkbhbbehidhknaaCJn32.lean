/- Parts of the proof, joined: Pre, Lnp. -/
import Derived.Test.YtkbhbbehidhknaaCJn30
import Derived.Test.YtkbhbbehidhknaaCJn18
import Derived.Test.YtkbhbbehidhknaaCJn31
import Derived.Test.YtkbhbbehidhknaaCJn15
import Derived.Test.YtkbhbbehidhknaaCJn10
import Derived.Test.YtkbhbbehidhknaaCJn6
import Derived.Test.YtkbhbbehidhknaaCJn0
import Derived.Test.YtkbhbbehidhknaaCNx2
namespace Go.Proofs.Ytkbhbbehidhknaa
open Go.RowKit

theorem idsB_len {xs : List Int} {n : Nat} (h : idsB xs n = true) : xs.length = 0 ∨ xs.length = n := by
  unfold idsB at h
  simp only [Bool.and_eq_true, Bool.or_eq_true, beq_iff_eq] at h
  rcases h.2 with h | h
  · exact .inl h
  · exact .inr (by omega)
theorem portB_true {N : Net} {v i : Nat} (hv : v < N.ends.length) (hi : i < dg N.ends v) : portB N (v : Int) (i : Int) = true := by
  unfold portB inB
  unfold dg at hi
  simp
  omega
theorem keptR {w : World} {g8 g9 : Nat} {ess : List (List (Int × Int))} {a b c d : Int} (h8 : Blk w g8 35 #[.int .i64 a, .int .i64 b]) (h9 : Blk w g9 35 #[.int .i64 c, .int .i64 d]) : KeepR w 34 #[.pointer (some ⟨g8, 0, none⟩), .pointer (some ⟨g9, 0, none⟩)] (keepB (a, b) (c, d)) ess :=
  ⟨Enters.of Try.func34 (by kernel_rfl) rfl, fun W k i hW _ _ => kept_any W g8 g9 a b c d k i (h8.below hW) (h9.below hW)⟩

set_option maxRecDepth 100000 in
set_option maxHeartbeats 2000000 in
theorem RemoveEdge_any {S : Nat → Prop} (u : Value) (N : Net) (v i : Nat) (w : World) (h : NetR w S u N) (hs : Small N) (hg : goodB N = true) (hv : v < N.ends.length) (hi : i < dg N.ends v) :
    Calls Try.prog 10 #[u, .int .i64 (v : Int), .int .i64 (i : Int)] w (RetNO w ⟨partK N.ends (keepB ((v : Int), (i : Int)) (pt N.ends v i)), N.ids, N.inputs⟩ true) := by
  have hsl := hs.1
  have HS := Lib.hid hs
  obtain ⟨g1, g2, g3, g4, g5⟩ := goodB_iff.1 hg
  have HSY := Lib.hid (endsOk_iff.1 g5).2
  have HIN := Lib.hid g3
  have HID : Hid (N.ids.length = 0 ∨ N.ids.length = N.ends.length) := Lib.hid (idsB_len g2)
  have hid2 : N.ids.length ≤ 2097152 := by have := HID.out; omega
  clear g1 g2 g3 g4 g5
  have HN := Lib.hid h
  obtain ⟨ve, vi, vn, rfl, he, hi, hn⟩ := h
  obtain ⟨A, c, rfl, -, hmc, hx⟩ := he
  obtain ⟨A1, c1, rfl, -, -, -⟩ := hi
  obtain ⟨A2, c2, rfl, -, -, -⟩ := hn
  unfold maxLen at hmc
  have HX := Lib.hid hx
  clear hx
  obtain ⟨wz, hwz⟩ : ∃ wz, wz = ((w.alloc (.cells #[.slice A N.ends.length c, .slice A1 N.ids.length c1, .slice A2 N.inputs.length c2] 27)).alloc (.cells #[.slice none 0 0, .slice none 0 0, .slice none 0 0] 27)) := ⟨_, rfl⟩
  have hzs : wz.heap.size = w.heap.size + 2 := by rw [hwz]; simp
  have hbz : Below w.heap.size w wz := by rw [hwz]; exact (((Below.refl _ _).alloc (by simp) _).alloc (by simp) _)
  have HK : Hid (Blk wz w.heap.size 27 #[.slice A N.ends.length c, .slice A1 N.ids.length c1, .slice A2 N.inputs.length c2]) := Lib.hid (by
    rw [hwz]
    have := ((Blk.new w 27 #[.slice A N.ends.length c, .slice A1 N.ids.length c1, .slice A2 N.inputs.length c2]).alloc (.cells #[.slice none 0 0, .slice none 0 0, .slice none 0 0] 27))
    simpa using this)
  have HR : Hid (Blk wz (w.heap.size + 1) 27 #[.slice none 0 0, .slice none 0 0, .slice none 0 0]) := Lib.hid (by
    rw [hwz]
    have := (Blk.new (w.alloc (.cells #[.slice A N.ends.length c, .slice A1 N.ids.length c1, .slice A2 N.inputs.length c2] 27)) 27 #[.slice none 0 0, .slice none 0 0, .slice none 0 0])
    simpa using this)
  have HB0 := Lib.hid hbz
  have HZ := Lib.hid hwz
  have CN := Lib.hid (fun W (hW : Below wz.heap.size wz W) => IsNetwork_any _ N W ((HN.out.below HB0.out).below hW) hid2)
  have CP := Lib.hid (fun W (hW : Below wz.heap.size wz W) => hasPort_any _ N (v : Int) (i : Int) W ((HN.out.below HB0.out).below hW))
  rw [hg] at CN
  rw [portB_true hv hi] at CP
  clear hg hs
  clear hwz hbz
  go_enter Try.func10, Try.ntmps10
  go_upto_region 1 with fail
  rw [← HZ.out]
  clear HZ
  have ka := HK.out.cell
  obtain ⟨b, off, rfl, -, hrow⟩ := HX.out (by omega)
  obtain ⟨uv, huv, hur⟩ := hrow v hv
  obtain ⟨R, rc, rfl, -, hrm, hrr⟩ := hur
  have hdv : i < (gl N.ends v).length := hi
  obtain ⟨bq, oq, rfl, -, hqc⟩ := hrr (by omega)
  obtain ⟨p1, p2⟩ := hqc i hdv
  obtain ⟨q, jj, hpt, hqb, hjj, -⟩ := HSY.out v i hv hi
  have hpt' := hpt
  unfold pt at hpt'
  rw [hpt'] at p1 p2
  obtain ⟨dv, hdv'⟩ : ∃ dv, dv = (gl N.ends v).length := ⟨_, rfl⟩
  rw [← hdv'] at huv hdv
  have HPT := Lib.hid hpt
  have hdv2 : dv ≤ 262144 := by rw [hdv']; exact HS.out.2.1 v hv
  have HV := Lib.hid hv
  have HI := Lib.hid hi
  have HQ := Lib.hid (And.intro hqb hjj)
  clear hdv' hpt hpt' hqc hrr hrow HX
  go_upto_region 3 with (first | (go_at_call 31; refine (CP.out w1 HB1.out).mono ?_; rintro e w2 ⟨rfl, hb2⟩; have HB2 := Lib.hid (Below.then_ HB1.out hb2); have kb2 := (HK.out.below HB2.out).cell; clear hb2) | (go_at_call 21; refine (CN.out wz (Below.refl _ _)).mono ?_; rintro e w1 ⟨rfl, hb1⟩; have HB1 := Lib.hid hb1; have kb1 := (HK.out.below hb1).cell; clear hb1))
  clear ka kb1
  have HBW := Lib.hid (HB0.out.trans (HB2.out.mono (by omega : w.heap.size ≤ wz.heap.size)))
  have hz2 := HB2.out.size
  have HK2 := Lib.hid (HK.out.below HB2.out)
  have HR2 := Lib.hid (HR.out.below HB2.out)
  have kr := (HBW.out.cell (p := ⟨b, off + v, none⟩) (lt_of_cell huv)).trans huv
  have k1 := (HBW.out.cell (p := ⟨bq, oq + i * 2, none⟩) (lt_of_cell p1)).trans p1
  have k2 := (HBW.out.cell (p := ⟨bq, oq + i * 2 + 1, none⟩) (lt_of_cell p2)).trans p2
  have iv1 : (0 : Int) ≤ (v : Int) := by omega
  have iv2 : (v : Int) < (N.ends.length : Int) := by omega
  have iw1 : (0 : Int) ≤ (i : Int) := by omega
  have iw2 : (i : Int) < (dv : Int) := by omega
  clear huv p1 p2 kb2
  go_cut [8, 9] (fun x8 x9 W => ∃ (g8 g9 : Nat), x8 = .pointer (some ⟨g8, 0, none⟩) ∧ x9 = .pointer (some ⟨g9, 0, none⟩) ∧ Blk W g8 35 #[.int .i64 (v : Int), .int .i64 (i : Int)] ∧ Blk W g9 35 #[.int .i64 (q : Int), .int .i64 (jj : Int)] ∧ Below w2.heap.size w2 W)
  case first =>
    have HSO : Hid (∀ W, LowB w2.heap.size w2 W → W.cell? ⟨w.heap.size, 0, none⟩ = some (.slice (some ⟨b, off, none⟩) N.ends.length c) ∧ W.cell? ⟨b, off + v, none⟩ = some (.slice (some ⟨bq, oq, none⟩) dv rc) ∧ W.cell? ⟨bq, oq + i * 2, none⟩ = some (.int .i64 (q : Int)) ∧ W.cell? ⟨bq, oq + i * 2 + 1, none⟩ = some (.int .i64 (jj : Int))) := Lib.hid fun W hW =>
      ⟨(hW.cell (by omega)).trans (HK2.out.cell 0), (hW.cell (lt_of_cell kr)).trans kr, (hW.cell (lt_of_cell k1)).trans k1, (hW.cell (lt_of_cell k2)).trans k2⟩
    clear kr k1 k2
    have hl0 : LowB w2.heap.size w2 w2.drew := LowB.of_below (Below.refl _ _).drew (Nat.le_refl _)
    have hl1 : LowB w2.heap.size w2 (w2.drew.alloc (.cells #[.int .i64 0, .int .i64 0] 35)) := LowB.of_below (((Below.refl w2.heap.size w2).drew).alloc (Nat.le_refl _) _) (Nat.le_refl _)
    have hl2 : LowB w2.heap.size w2 ((w2.drew.alloc (.cells #[.int .i64 0, .int .i64 0] 35)).alloc (.cells #[.int .i64 0, .int .i64 0] 35)) := LowB.of_below ((((Below.refl w2.heap.size w2).drew).alloc (Nat.le_refl _) _).alloc (by simp) _) (Nat.le_refl _)
    have hzd : w2.drew.heap.size = w2.heap.size := rfl
    have b0 : Blk ((w2.drew.alloc (.cells #[.int .i64 0, .int .i64 0] 35)).alloc (.cells #[.int .i64 0, .int .i64 0] 35)) w2.heap.size 35 #[.int .i64 0, .int .i64 0] := (Blk.new w2.drew _ _).alloc _
    have b1 : Blk ((w2.drew.alloc (.cells #[.int .i64 0, .int .i64 0] 35)).alloc (.cells #[.int .i64 0, .int .i64 0] 35)) (w2.heap.size + 1) 35 #[.int .i64 0, .int .i64 0] := by
      have := Blk.new (w2.drew.alloc (.cells #[.int .i64 0, .int .i64 0] 35)) 35 #[.int .i64 0, .int .i64 0]
      rwa [World.size_alloc] at this
    have hbb : Below w2.heap.size w2 ((w2.drew.alloc (.cells #[.int .i64 0, .int .i64 0] 35)).alloc (.cells #[.int .i64 0, .int .i64 0] 35)) := (((Below.refl w2.heap.size w2).drew).alloc (Nat.le_refl _) _).alloc (by simp) _
    have HBB := Lib.hid hbb
    have HB01 := Lib.hid (And.intro b0 b1)
    have HL0 := Lib.hid hl0
    have HL1 := Lib.hid hl1
    have HL2 := Lib.hid hl2
    clear hl0 hl1 hl2 b0 b1 hbb
    refine wp_region_any (by kernel_rfl) ?_
    try (change wpAny _ _ _ _ _ _ _ (World.drew _))
    simp only [List.size_toArray, List.length_cons, List.length_nil, Array.replicate, List.replicate]
    refine wpAny_take (i := 0) (oi := _) (v := ?_) rfl (by kernel_rfl) (by kernel_rfl) (by kernel_rfl) (fun _ _ _ h => h) (Or.inl ⟨by rfl, ?_⟩) ?_
    case refine_2 => intro w0; go_simp; with_reducible rfl
    try simp only [Act.put, List.getElem_toArray, List.getElem_cons_zero, List.getElem_cons_succ, List.setIfInBounds_toArray, List.set_cons_zero, List.set_cons_succ]
    refine wpAny_take (i := 1) (oi := _) (v := ?_) rfl (by kernel_rfl) (by kernel_rfl) (by kernel_rfl) (fun _ _ _ h => h) (Or.inl ⟨by rfl, ?_⟩) ?_
    case refine_2 => intro w0; go_simp; with_reducible rfl
    try simp only [Act.put, List.getElem_toArray, List.getElem_cons_zero, List.getElem_cons_succ, List.setIfInBounds_toArray, List.set_cons_zero, List.set_cons_succ]
    refine wpAny_take (i := 2) (oi := _) (v := ?_) rfl (by kernel_rfl) (by kernel_rfl) (by kernel_rfl) (fun _ _ _ h => h) (Or.inl ⟨by rfl, ?_⟩) ?_
    case refine_2 => intro w0; go_simp; with_reducible rfl
    try simp only [Act.put, List.getElem_toArray, List.getElem_cons_zero, List.getElem_cons_succ, List.setIfInBounds_toArray, List.set_cons_zero, List.set_cons_succ]
    refine wpAny_take (i := 3) (oi := _) (v := ?_) rfl (by kernel_rfl) (by kernel_rfl) (by kernel_rfl) (fun _ _ _ h => h) (Or.inl ⟨by rfl, ?_⟩) ?_
    case refine_2 => intro w0; go_simp; with_reducible rfl
    try simp only [Act.put, List.getElem_toArray, List.getElem_cons_zero, List.getElem_cons_succ, List.setIfInBounds_toArray, List.set_cons_zero, List.set_cons_succ]
    refine wpAny_take (i := 5) (oi := _) (v := ?_) rfl (by kernel_rfl) (by kernel_rfl) (by kernel_rfl) (fun _ _ _ h => h) (Or.inl ⟨by rfl, ?_⟩) ?_
    case refine_2 => intro w0; go_simp; with_reducible rfl
    try simp only [Act.put, List.getElem_toArray, List.getElem_cons_zero, List.getElem_cons_succ, List.setIfInBounds_toArray, List.set_cons_zero, List.set_cons_succ]
    refine wpAny_take (i := 8) (oi := _) (v := ?_) rfl (by kernel_rfl) (by kernel_rfl) (by kernel_rfl) (fun _ _ _ h => h) (Or.inl ⟨by rfl, ?_⟩) ?_
    case refine_2 => intro w0; go_simp; with_reducible rfl
    try simp only [Act.put, List.getElem_toArray, List.getElem_cons_zero, List.getElem_cons_succ, List.setIfInBounds_toArray, List.set_cons_zero, List.set_cons_succ]
    refine wpAny_of_P (S := fun W => W.cell? ⟨w.heap.size, 0, none⟩ = some (.slice (some ⟨b, off, none⟩) N.ends.length c) ∧ W.cell? ⟨b, off + v, none⟩ = some (.slice (some ⟨bq, oq, none⟩) dv rc) ∧ W.cell? ⟨bq, oq + i * 2, none⟩ = some (.int .i64 (q : Int)) ∧ W.cell? ⟨bq, oq + i * 2 + 1, none⟩ = some (.int .i64 (jj : Int))) (n1 := 15) _ _ _ _ ?_
    refine wpAnyP_take (i := 4) (oi := _) (v := ?_) rfl (by kernel_rfl) (by kernel_rfl) (by kernel_rfl) (by omega) (by kernel_rfl) (fun _ _ _ h => h) (Or.inl ⟨by rfl, ?_⟩) (HSO.out _ HL0.out) ?_
    case refine_2 => intro w0 hS0; obtain ⟨h0, h1, h2, h3⟩ := hS0; go_simp; try with_reducible rfl
    try simp only [Act.put, List.getElem_toArray, List.getElem_cons_zero, List.getElem_cons_succ, List.setIfInBounds_toArray, List.set_cons_zero, List.set_cons_succ]
    refine wpAnyP_take (i := 6) (oi := _) (v := ?_) rfl (by kernel_rfl) (by kernel_rfl) (by kernel_rfl) (by omega) (by kernel_rfl) (fun _ _ _ h => h) (Or.inl ⟨by rfl, ?_⟩) (HSO.out _ HL0.out) ?_
    case refine_2 => intro w0 hS0; obtain ⟨h0, h1, h2, h3⟩ := hS0; go_simp; try with_reducible rfl
    try simp only [Act.put, List.getElem_toArray, List.getElem_cons_zero, List.getElem_cons_succ, List.setIfInBounds_toArray, List.set_cons_zero, List.set_cons_succ]
    refine wpAnyP_take (i := 7) (oi := _) (v := ?_) rfl (by kernel_rfl) (by kernel_rfl) (by kernel_rfl) (by omega) (by kernel_rfl) (fun _ _ _ h => h) (Or.inl ⟨by rfl, ?_⟩) (HSO.out _ HL0.out) ?_
    case refine_2 => intro w0 hS0; obtain ⟨h0, h1, h2, h3⟩ := hS0; go_simp; try with_reducible rfl
    try simp only [Act.put, List.getElem_toArray, List.getElem_cons_zero, List.getElem_cons_succ, List.setIfInBounds_toArray, List.set_cons_zero, List.set_cons_succ]
    refine wpAnyP_take (i := 9) (oi := _) (v := ?_) rfl (by kernel_rfl) (by kernel_rfl) (by kernel_rfl) (by omega) (by kernel_rfl) (fun _ _ _ h => h) (Or.inl ⟨by rfl, ?_⟩) (HSO.out _ HL0.out) ?_
    case refine_2 => intro w0 hS0; obtain ⟨h0, h1, h2, h3⟩ := hS0; go_simp; try with_reducible rfl
    try simp only [Act.put, List.getElem_toArray, List.getElem_cons_zero, List.getElem_cons_succ, List.setIfInBounds_toArray, List.set_cons_zero, List.set_cons_succ]
    refine wpAnyP_take (i := 10) (oi := _) (v := ?_) rfl (by kernel_rfl) (by kernel_rfl) (by kernel_rfl) (by omega) (by kernel_rfl) (fun _ _ _ h => h) (Or.inl ⟨by rfl, ?_⟩) (HSO.out _ HL0.out) ?_
    case refine_2 => intro w0 hS0; obtain ⟨h0, h1, h2, h3⟩ := hS0; go_simp; try with_reducible rfl
    try simp only [Act.put, List.getElem_toArray, List.getElem_cons_zero, List.getElem_cons_succ, List.setIfInBounds_toArray, List.set_cons_zero, List.set_cons_succ]
    refine wpAnyP_ready (rs := [11, 12]) (by kernel_rfl) (by simp) (by kernel_rfl) (AllReadyP.cons (o := _) rfl (fun K hK => ?_) (AllReadyP.cons (o := _) rfl (fun K hK => ?_) AllReadyP.nil))
    · go_simp
      refine hK.out _ _ (HSO.out _ HL1.out) (fun _ => ?_)
      clear hK K
      try simp only [Act.put, List.getElem_toArray, List.getElem_cons_zero, List.getElem_cons_succ, List.setIfInBounds_toArray, List.set_cons_zero, List.set_cons_succ]
      refine wpAnyP_ready (rs := [12]) (by kernel_rfl) (by simp) (by kernel_rfl) (AllReadyP.cons (o := _) rfl (fun K hK => ?_) AllReadyP.nil)
      go_simp
      refine hK.out _ _ (HSO.out _ HL2.out) (fun _ => ?_)
      clear hK K
      try simp only [Act.put, List.getElem_toArray, List.getElem_cons_zero, List.getElem_cons_succ, List.setIfInBounds_toArray, List.set_cons_zero, List.set_cons_succ]
      have c8 := HB01.out.1.cell
      have f8 := HB01.out.1.free
      refine wpAnyP_ready (rs := [13]) (by kernel_rfl) (by simp) (by kernel_rfl) (AllReadyP.cons (o := _) rfl (fun K hK => ?_) AllReadyP.nil)
      go_simp
      refine hK.out _ _ (HSO.out _ (LowB.of_below (((((Below.refl w2.heap.size w2).alloc (Nat.le_refl _) (.cells #[.int .i64 (v : Int), .int .i64 (i : Int)] 35)).alloc (by simp) (.cells #[.int .i64 0, .int .i64 0] 35))).drew) (Nat.le_refl _) : LowB w2.heap.size w2 (((w2.alloc (.cells #[.int .i64 (v : Int), .int .i64 (i : Int)] 35)).alloc (.cells #[.int .i64 0, .int .i64 0] 35)).drew))) (fun _ => ?_)
      clear hK K
      try simp only [Act.put, List.getElem_toArray, List.getElem_cons_zero, List.getElem_cons_succ, List.setIfInBounds_toArray, List.set_cons_zero, List.set_cons_succ]
      clear c8 f8
      have b9 : Blk (((w2.alloc (.cells #[.int .i64 (v : Int), .int .i64 (i : Int)] 35)).alloc (.cells #[.int .i64 0, .int .i64 0] 35)).drew) (w2.heap.size + 1) 35 #[.int .i64 0, .int .i64 0] := by
        have := Blk.new (w2.alloc (.cells #[.int .i64 (v : Int), .int .i64 (i : Int)] 35)) 35 #[.int .i64 0, .int .i64 0]
        rwa [World.size_alloc] at this
      have c9 := b9.cell
      have f9 := b9.free
      refine wpAnyP_ready (rs := [14]) (by kernel_rfl) (by simp) (by kernel_rfl) (AllReadyP.cons (o := _) rfl (fun K hK => ?_) AllReadyP.nil)
      go_simp
      refine hK.out _ _ (HSO.out _ (LowB.of_below (((((Below.refl w2.heap.size w2).alloc (Nat.le_refl _) (.cells #[.int .i64 (v : Int), .int .i64 (i : Int)] 35)).alloc (by simp) (.cells #[.int .i64 (q : Int), .int .i64 (jj : Int)] 35))).drew) (Nat.le_refl _) : LowB w2.heap.size w2 (((w2.alloc (.cells #[.int .i64 (v : Int), .int .i64 (i : Int)] 35)).alloc (.cells #[.int .i64 (q : Int), .int .i64 (jj : Int)] 35)).drew))) (fun _ => ?_)
      clear hK K
      try simp only [Act.put, List.getElem_toArray, List.getElem_cons_zero, List.getElem_cons_succ, List.setIfInBounds_toArray, List.set_cons_zero, List.set_cons_succ]
      clear c9 f9 b9
      have y8 : Blk (((w2.alloc (.cells #[.int .i64 (v : Int), .int .i64 (i : Int)] 35)).alloc (.cells #[.int .i64 (q : Int), .int .i64 (jj : Int)] 35)).drew) (w2.heap.size) 35 #[.int .i64 (v : Int), .int .i64 (i : Int)] := (Blk.new w2 35 #[.int .i64 (v : Int), .int .i64 (i : Int)]).alloc _
      have y9 : Blk (((w2.alloc (.cells #[.int .i64 (v : Int), .int .i64 (i : Int)] 35)).alloc (.cells #[.int .i64 (q : Int), .int .i64 (jj : Int)] 35)).drew) (w2.heap.size + 1) 35 #[.int .i64 (q : Int), .int .i64 (jj : Int)] := by
        have := Blk.new (w2.alloc (.cells #[.int .i64 (v : Int), .int .i64 (i : Int)] 35)) 35 #[.int .i64 (q : Int), .int .i64 (jj : Int)]
        rwa [World.size_alloc] at this
      have HY := Lib.hid (And.intro y8 (And.intro y9 (((((Below.refl w2.heap.size w2).alloc (Nat.le_refl _) (.cells #[.int .i64 (v : Int), .int .i64 (i : Int)] 35)).alloc (by simp) (.cells #[.int .i64 (q : Int), .int .i64 (jj : Int)] 35))).drew)))
      clear y8 y9
      refine wpAnyP_go (by kernel_rfl) (wpAny_done (by kernel_rfl) ?_ _)
      go_wp2_with fail
      go_meet
      exact ⟨w2.heap.size, w2.heap.size + 1, rfl, rfl, HY.out.1, HY.out.2.1, HY.out.2.2⟩
    · go_simp
      refine hK.out _ _ (HSO.out _ HL1.out) (fun _ => ?_)
      clear hK K
      try simp only [Act.put, List.getElem_toArray, List.getElem_cons_zero, List.getElem_cons_succ, List.setIfInBounds_toArray, List.set_cons_zero, List.set_cons_succ]
      refine wpAnyP_ready (rs := [11]) (by kernel_rfl) (by simp) (by kernel_rfl) (AllReadyP.cons (o := _) rfl (fun K hK => ?_) AllReadyP.nil)
      go_simp
      refine hK.out _ _ (HSO.out _ HL2.out) (fun _ => ?_)
      clear hK K
      try simp only [Act.put, List.getElem_toArray, List.getElem_cons_zero, List.getElem_cons_succ, List.setIfInBounds_toArray, List.set_cons_zero, List.set_cons_succ]
      have c8 := HB01.out.2.cell
      have f8 := HB01.out.2.free
      refine wpAnyP_ready (rs := [13]) (by kernel_rfl) (by simp) (by kernel_rfl) (AllReadyP.cons (o := _) rfl (fun K hK => ?_) AllReadyP.nil)
      go_simp
      refine hK.out _ _ (HSO.out _ (LowB.of_below (((((Below.refl w2.heap.size w2).alloc (Nat.le_refl _) (.cells #[.int .i64 0, .int .i64 0] 35)).alloc (by simp) (.cells #[.int .i64 (v : Int), .int .i64 (i : Int)] 35))).drew) (Nat.le_refl _) : LowB w2.heap.size w2 (((w2.alloc (.cells #[.int .i64 0, .int .i64 0] 35)).alloc (.cells #[.int .i64 (v : Int), .int .i64 (i : Int)] 35)).drew))) (fun _ => ?_)
      clear hK K
      try simp only [Act.put, List.getElem_toArray, List.getElem_cons_zero, List.getElem_cons_succ, List.setIfInBounds_toArray, List.set_cons_zero, List.set_cons_succ]
      clear c8 f8
      have b9 : Blk (((w2.alloc (.cells #[.int .i64 0, .int .i64 0] 35)).alloc (.cells #[.int .i64 (v : Int), .int .i64 (i : Int)] 35)).drew) (w2.heap.size) 35 #[.int .i64 0, .int .i64 0] := (Blk.new w2 35 #[.int .i64 0, .int .i64 0]).alloc _
      have c9 := b9.cell
      have f9 := b9.free
      refine wpAnyP_ready (rs := [14]) (by kernel_rfl) (by simp) (by kernel_rfl) (AllReadyP.cons (o := _) rfl (fun K hK => ?_) AllReadyP.nil)
      go_simp
      refine hK.out _ _ (HSO.out _ (LowB.of_below (((((Below.refl w2.heap.size w2).alloc (Nat.le_refl _) (.cells #[.int .i64 (q : Int), .int .i64 (jj : Int)] 35)).alloc (by simp) (.cells #[.int .i64 (v : Int), .int .i64 (i : Int)] 35))).drew) (Nat.le_refl _) : LowB w2.heap.size w2 (((w2.alloc (.cells #[.int .i64 (q : Int), .int .i64 (jj : Int)] 35)).alloc (.cells #[.int .i64 (v : Int), .int .i64 (i : Int)] 35)).drew))) (fun _ => ?_)
      clear hK K
      try simp only [Act.put, List.getElem_toArray, List.getElem_cons_zero, List.getElem_cons_succ, List.setIfInBounds_toArray, List.set_cons_zero, List.set_cons_succ]
      clear c9 f9 b9
      have y8 : Blk (((w2.alloc (.cells #[.int .i64 (q : Int), .int .i64 (jj : Int)] 35)).alloc (.cells #[.int .i64 (v : Int), .int .i64 (i : Int)] 35)).drew) (w2.heap.size + 1) 35 #[.int .i64 (v : Int), .int .i64 (i : Int)] := by
        have := Blk.new (w2.alloc (.cells #[.int .i64 (q : Int), .int .i64 (jj : Int)] 35)) 35 #[.int .i64 (v : Int), .int .i64 (i : Int)]
        rwa [World.size_alloc] at this
      have y9 : Blk (((w2.alloc (.cells #[.int .i64 (q : Int), .int .i64 (jj : Int)] 35)).alloc (.cells #[.int .i64 (v : Int), .int .i64 (i : Int)] 35)).drew) (w2.heap.size) 35 #[.int .i64 (q : Int), .int .i64 (jj : Int)] := (Blk.new w2 35 #[.int .i64 (q : Int), .int .i64 (jj : Int)]).alloc _
      have HY := Lib.hid (And.intro y8 (And.intro y9 (((((Below.refl w2.heap.size w2).alloc (Nat.le_refl _) (.cells #[.int .i64 (q : Int), .int .i64 (jj : Int)] 35)).alloc (by simp) (.cells #[.int .i64 (v : Int), .int .i64 (i : Int)] 35))).drew)))
      clear y8 y9
      refine wpAnyP_go (by kernel_rfl) (wpAny_done (by kernel_rfl) ?_ _)
      go_wp2_with fail
      go_meet
      exact ⟨w2.heap.size + 1, w2.heap.size, rfl, rfl, HY.out.1, HY.out.2.1, HY.out.2.2⟩
  case rest =>
  clear kr k1 k2
  obtain ⟨g8, g9, rfl, rfl, hr8, hr9, hb3⟩ := hcut
  obtain ⟨w3, hw3⟩ : ∃ W, W = wc := ⟨_, rfl⟩
  rw [← hw3] at hr8 hr9 hb3 ⊢
  clear hw3
  have HB3 := Lib.hid (HBW.out.trans (hb3.mono (by omega : w.heap.size ≤ w2.heap.size)))
  have HN3 := Lib.hid (HN.out.below HB3.out)
  have HR8 := Lib.hid hr8
  have HR9 := Lib.hid hr9
  have HK3 := Lib.hid (HK2.out.below hb3)
  have HR3 := Lib.hid (HR2.out.below hb3)
  have hz3 := hb3.size
  have kn : ∀ (x : BW w3) i, x.wd.cell? ⟨w.heap.size, i, none⟩ = (#[.slice (some ⟨b, off, none⟩) N.ends.length c, .slice A1 N.ids.length c1, .slice A2 N.inputs.length c2] : Array Value)[i]? := fun x i => (x.cell _ _ (by omega)).trans (HK3.out.cell i)
  have hnl : N.ends.length ≤ 1048576 := by omega
  have HKS : Hid (KSym N.ends (keepB ((v : Int), (i : Int)) ((q : Int), (jj : Int)))) := Lib.hid fun k j hk hj h => by
    have := keepB_sym HSY.out HV.out HI.out hk hj (by rw [HPT.out]; exact h)
    rw [HPT.out] at this
    exact this
  clear hr8 hr9 hb3 HK2 HR2
  obtain ⟨kp, hkp⟩ : ∃ kp, kp = keepB ((v : Int), (i : Int)) ((q : Int), (jj : Int)) := ⟨_, rfl⟩
  rw [← hkp] at HKS
  have HKP := Lib.hid hkp
  have HKR : Hid (∀ x : World, Below w3.heap.size w3 x → KeepR x 34 #[.pointer (some ⟨g8, 0, none⟩), .pointer (some ⟨g9, 0, none⟩)] kp N.ends) := Lib.hid fun x hx => by
    rw [hkp]
    exact keptR (HR8.out.below hx) (HR9.out.below hx)
  clear hkp
  go_upto_region 4 with fail
  refine wp_region_makeZ (fun i => match i with | 4 => some (mkI (upTo N.ends.length)) | 5 => some (mkV (.func (.func 34) #[] #[.pointer (some ⟨g8, 0, none⟩), .pointer (some ⟨g9, 0, none⟩)])) | 6 => some (mkNt ⟨partK N.ends kp, N.ids, N.inputs⟩) | _ => none) 7 1000 (by kernel_rfl) (by kernel_rfl) (by intro o ho; first | (cases ho; done) | (cases ho; intro _ _ _ _ h; exact h)) ?_
  simp only [List.take_succ_cons, List.take_zero, List.drop_succ_cons, List.drop_zero]
  refine wpMk_quiet 4 _ _ _ rfl rfl ?_
  simp only [List.take_succ_cons, List.take_zero, List.drop_succ_cons, List.drop_zero]
  repeat (go_big_quiet_step (fail))
  refine wpQuiet_nil ?_
  refine wpMk_make _ 36 rfl rfl (by simp) (fun x hneed => by { go_wp2_with (go_at_call 33; refine (numbersTo_any N.ends.length _ hnl).mono ?_; rintro e x' ⟨gn, rfl, -, ho, hb⟩); exact mkI.gives hb ho }) rfl ?_
  rintro v36 b36 e36 ⟨A3, c3, rfl⟩
  simp only [Act.put, List.setIfInBounds_toArray, List.set_cons_zero, List.set_cons_succ]
  refine wpMk_make _ 37 rfl rfl (by simp) (fun x hneed => by { go_wp2_with fail; exact mkV.gives (Below.refl _ _) }) rfl ?_
  rintro v37 b37 e37 rfl
  simp only [Act.put, List.setIfInBounds_toArray, List.set_cons_zero, List.set_cons_succ]
  refine wpMk_make _ 38 rfl rfl (by simp) (fun x hneed => by { obtain ⟨-, n1, -⟩ := hneed; have hn1 := n1 (by kernel_rfl); have HN1 := Lib.hid hn1.1; clear hn1 n1; go_wp2_with (go_at_call 32; refine (part_any _ _ N _ _ _ _ (HN3.out.below x.h) HN1.out.ints (HKR.out _ x.h) HS.out HIN.out HID.out HKS.out).mono ?_; rintro e x' ⟨v, rfl, ho, hb⟩); exact mkNt.gives hb ho }) rfl ?_
  rintro v38 b38 e38 ⟨P0, p0, P1, p1, P2, p2, rfl⟩
  simp only [Act.put, List.setIfInBounds_toArray, List.set_cons_zero, List.set_cons_succ]
  rintro x hbx ⟨F38, -, F36, -⟩ hdis hord
  have hord1 := hord
  simp only [List.pairwise_cons, List.mem_cons, List.not_mem_nil, forall_eq_or_imp, or_false, false_or, forall_eq] at hord1
  have hres : Blk x (w.heap.size + 1) 27 #[.slice none 0 0, .slice none 0 0, .slice none 0 0] := HR3.out.below hbx
  obtain ⟨q1, q2, q3⟩ := resStoreT (w := w) hres (by omega) (HB3.out.trans (hbx.mono (by omega))) F38 (by omega)
  have hc := q1.cell
  have HFI := Lib.hid (And.intro q2 q3)
  have kc := hres.cell
  have kf := hres.free
  have s3 := Lib.hid hres
  clear q1 q2 q3 hres F38 F36 hdis hord hord1
  unfold set3 at hc
  go_wp2_with fail
  obtain ⟨s0, s1, s2⟩ := res3 (x := .slice P0 (partK N.ends kp).length p0) (y := .slice P1 N.ids.length p1) (z := .slice P2 N.inputs.length p2) s3.out
  exact bodyPost_ret (v := .tuple #[.agg #[.slice P0 (partK N.ends kp).length p0, .slice P1 N.ids.length p1, .slice P2 N.inputs.length p2], .bool true]) (by simp [results, Try.results10, go_sem, hc, s0, s1, s2]) rfl ⟨HFI.out.2, .inl ⟨rfl, _, rfl, by rw [HPT.out, ← HKP.out]; exact HFI.out.1⟩⟩
end Go.Proofs.Ytkbhbbehidhknaa

namespace Go.Proofs.Ytkbhbbehidhknaa
open Go.RowKit

/-- a node's list, of a network at hand -/
theorem NetR.row {w : World} {S : Nat → Prop} {A : Option Addr} {c : Nat} {u1 u2 : Value} {N : Net} {k : Nat} (h : NetR w S (.agg #[.slice A N.ends.length c, u1, u2]) N) (hk : k < N.ends.length) :
    ∃ b off R rc, A = some ⟨b, off, none⟩ ∧ w.cell? ⟨b, off + k, none⟩ = some (.slice R (gl N.ends k).length rc) := by
  obtain ⟨ve, vi, vn, e, ⟨A', c', e2, -, -, hx⟩, -, -⟩ := h
  simp only [Value.agg.injEq, Array.mk.injEq, List.cons.injEq, and_true] at e
  obtain ⟨rfl, -, -⟩ := e
  simp only [Value.slice.injEq] at e2
  obtain ⟨rfl, -, -⟩ := e2
  obtain ⟨b, off, h1, -, h2⟩ := hx (by omega)
  obtain ⟨u, hu, R, rc, rfl, -⟩ := h2 k hk
  exact ⟨b, off, R, rc, h1, hu⟩
/-- the network, or the empty one -/
def okN (N : Net) (g : Bool) : Net := if g = true then N else ⟨[], [], []⟩
theorem okN_true (N : Net) : okN N true = N := rfl
/-- the answer: a network of the call's own, and whether it is one -/
def RetOk (w : World) (M : Net) (g : Bool) (e : Ending) (w' : World) : Prop :=
  ∃ A c A1 c1 A2 c2, e = .returned (.tuple #[.agg #[.slice A M.ends.length c, .slice A1 M.ids.length c1, .slice A2 M.inputs.length c2], .bool g]) ∧ OwnNt w' w.heap.size (.agg #[.slice A M.ends.length c, .slice A1 M.ids.length c1, .slice A2 M.inputs.length c2]) M ∧ Below w.heap.size w w'
theorem RetNO.ok {w w' : World} {N : Net} {g : Bool} {e : Ending} (h : RetNO w N g e w') : RetOk w (okN N g) g e w' := by
  obtain ⟨hb, ⟨rfl, v, rfl, ho⟩ | ⟨rfl, rfl⟩⟩ := h
  · obtain ⟨A, c, A1, c1, A2, c2, rfl⟩ := ho.parts
    exact ⟨A, c, A1, c1, A2, c2, rfl, ho, hb⟩
  · exact ⟨none, 0, none, 0, none, 0, rfl, ⟨_, _, _, rfl, OwnEs.nil, World.ownsRow_nil _ _ _ _, World.ownsRow_nil _ _ _ _, fun g hg => by cases hg⟩, hb⟩
theorem goodB_small {N : Net} (h : goodB N = true) : Small N := by
  obtain ⟨h1, h2, h3, h4, h5⟩ := goodB_iff.1 h
  have h1 := inB_iff.1 h1
  have h2 := idsB_len h2
  refine ⟨by omega, fun i hi => ?_, by omega, by omega⟩
  have := (endsOk_iff.1 h5).1 i hi
  unfold dg at this
  omega
theorem goodB_sym {N : Net} (h : goodB N = true) : Sym N.ends := (endsOk_iff.1 (goodB_iff.1 h).2.2.2.2).2

theorem permB_of {xs : List Int} {n : Nat} (h : xs.Perm (upTo n)) : permB xs n = true := by
  have hl : xs.length = n := by rw [h.length_eq, upTo_length]
  have hn : xs.Nodup := h.nodup_iff.2 (upTo_nodup n)
  simp only [permB, Bool.and_eq_true, decide_eq_true_eq]
  refine ⟨fun i hi => ⟨?_, ?_⟩, hl⟩
  · have := upTo_mem.1 (h.mem_iff.1 (List.getElem_mem hi))
    rw [gi_lt hi, inB_iff]
    omega
  · rw [← Bool.not_eq_true]
    intro hh
    rw [gi_lt hi] at hh
    unfold hasB at hh
    have hm : xs[i] ∈ xs.take i := by simpa using hh
    obtain ⟨j, hj, e⟩ := List.mem_take_iff_getElem.1 hm
    have := (List.nodup_iff_pairwise_ne.1 hn)
    rw [List.pairwise_iff_getElem] at this
    exact this j i (by omega) hi (by omega) e

theorem addOk_spec {N : Net} {x y : Int} (h : addOk N x y = true) : ∃ a b : Nat, x = a ∧ y = b ∧ a < N.ends.length ∧ b < N.ends.length ∧ goodB N = true ∧ goodB (joinN N a b) = true := by
  unfold addOk nodeB at h
  simp only [Bool.and_eq_true] at h
  obtain ⟨⟨⟨h1, h2⟩, h3⟩, h4⟩ := h
  obtain ⟨a, rfl, ha⟩ := inB_nat h2
  obtain ⟨b, rfl, hb⟩ := inB_nat h3
  exact ⟨a, b, rfl, rfl, ha, hb, h1, h4⟩
section
variable {N : Net} {a b : Nat}
theorem join_port (ha : a < N.ends.length) (hb : b < N.ends.length) : dg N.ends a < dg (joinN N a b).ends a := by
  show _ < dg (joinE N.ends a b) a
  rw [joinE_dg ha hb]
  simp only [if_true]
  omega
theorem join_last (ha : a < N.ends.length) (hb : b < N.ends.length) : dg (joinN N a b).ends b = dg N.ends b + (if a = b then 1 else 0) + 1 := by
  show dg (joinE N.ends a b) b = _
  rw [joinE_dg ha hb]
  by_cases h : a = b
  · subst h; simp
  · have h2 : ¬ b = a := fun e => h e.symm
    simp [h, h2]
theorem join_other (hg : goodB (joinN N a b) = true) (ha : a < N.ends.length) (hb : b < N.ends.length) :
    otherB (joinN N a b) (a : Int) (dg N.ends a : Nat) = true ∧ otherE (joinN N a b) (a : Int) (dg N.ends a : Nat) = ((b : Int), ((dg N.ends b + (if a = b then 1 else 0) : Nat) : Int)) := by
  have h1 : otherB (joinN N a b) (a : Int) (dg N.ends a : Nat) = true := by
    unfold otherB
    rw [hg, portB_true (by show a < (joinE N.ends a b).length; rw [joinE_len]; exact ha) (join_port ha hb)]
    rfl
  refine ⟨h1, ?_⟩
  unfold otherE
  rw [if_pos h1, Int.toNat_natCast, Int.toNat_natCast]
  exact joinE_new1 ha hb
theorem join_back (hs : Sym N.ends) (ha : a < N.ends.length) (hb : b < N.ends.length) :
    (⟨partK (joinN N a b).ends (keepB ((a : Int), (dg N.ends a : Int)) (pt (joinN N a b).ends a (dg N.ends a))), (joinN N a b).ids, (joinN N a b).inputs⟩ : Net) = N := by
  have e : pt (joinN N a b).ends a (dg N.ends a) = ((b : Int), ((dg N.ends b + (if a = b then 1 else 0) : Nat) : Int)) := joinE_new1 ha hb
  rw [e]
  show (⟨partK (joinE N.ends a b) _, N.ids, N.inputs⟩ : Net) = N
  rw [part_join hs ha hb]
end

theorem portsOk_spec {N : Net} {x : Int} {π : List Int} (h : portsOk N x π = true) : ∃ a : Nat, x = a ∧ a < N.ends.length ∧ goodB N = true ∧ π.Perm (upTo (dg N.ends a)) := by
  unfold portsOk nodeB at h
  simp only [Bool.and_eq_true] at h
  obtain ⟨⟨h1, h2⟩, h3⟩ := h
  obtain ⟨a, rfl, ha⟩ := inB_nat h2
  rw [Int.toNat_natCast] at h3
  exact ⟨a, rfl, ha, h1, permB_perm h3⟩
section
variable {N : Net} {a : Nat} {π : List Int}
theorem goodB_ports (hg : goodB N = true) (hp : π.Perm (upTo (dg N.ends a))) : goodB (portsN N a π) = true := by
  obtain ⟨h1, h2, h3, h4, h5⟩ := goodB_iff.1 hg
  obtain ⟨h6, h7⟩ := endsOk_iff.1 h5
  have hl : (portsN N a π).ends.length = N.ends.length := portsE_len _ _ _
  refine goodB_iff.2 ⟨by rw [hl]; exact h1, by rw [hl]; exact h2, by rw [hl]; exact h3, h4, endsOk_iff.2 ⟨fun k hk => ?_, h7.ports hp⟩⟩
  show dg (portsE N.ends a π) k ≤ 6
  rw [portsE_dg]
  exact h6 k (by rw [← hl]; exact hk)
theorem ports_okB (hg : goodB N = true) (ha : a < N.ends.length) (hp : π.Perm (upTo (dg N.ends a))) : portsOk (portsN N a π) (a : Int) (invP π (dg N.ends a)) = true := by
  have hl : (portsN N a π).ends.length = N.ends.length := portsE_len _ _ _
  have hd : dg (portsN N a π).ends a = dg N.ends a := portsE_dg a
  unfold portsOk nodeB
  rw [goodB_ports hg hp, Int.toNat_natCast, hd, permB_of (invP_perm hp), hl]
  have : inB (a : Int) 0 ((N.ends.length : Int) - 1) = true := inB_iff.2 (by omega)
  rw [this]
  rfl
theorem ports_backN (hg : goodB N = true) (hp : π.Perm (upTo (dg N.ends a))) : portsN (portsN N a π) a (invP π (dg N.ends a)) = N := by
  have := ports_back (goodB_sym hg) hp
  unfold portsN
  simp only [this]
/-- the inverse under way: i where π's place of j lies ahead of k -/
theorem inv_step {d k q : Nat} (hp : π.Perm (upTo d)) (hk : k < d) (hq : gi π k = (q : Int)) : ∀ j, j < d → (if j = q then (k : Int) else if π.idxOf (j : Int) < k then ((π.idxOf (j : Int) : Nat) : Int) else 0) = if π.idxOf (j : Int) < k + 1 then ((π.idxOf (j : Int) : Nat) : Int) else 0 := fun j hj => by
  obtain ⟨h1, h2⟩ := perm_inv hp hj
  by_cases e : j = q
  · subst e
    have h3 : π.idxOf (j : Int) = k := perm_inj hp h1 hk (h2.trans hq.symm)
    rw [if_pos rfl, h3, if_pos (by omega)]
  · have h3 : π.idxOf (j : Int) ≠ k := fun e2 => e (by rw [e2, hq] at h2; omega)
    rw [if_neg e]
    by_cases h4 : π.idxOf (j : Int) < k
    · rw [if_pos h4, if_pos (by omega)]
    · rw [if_neg h4, if_neg (by omega)]
end
theorem unionOk_spec {M N : Net} (h : unionOk M N = true) : goodB M = true ∧ goodB N = true ∧ goodB (unionN M N) = true := by
  unfold unionOk at h
  simp only [Bool.and_eq_true] at h
  exact ⟨h.1, h.2.1, h.2.2.2⟩
theorem edgeN_unionN (M N : Net) : edgeN (unionN M N).ends = edgeN M.ends + edgeN N.ends := edgeN_union _ _
end Go.Proofs.Ytkbhbbehidhknaa
