/- The program's joined. Printed by gen_pn6.py. -/
import Derived.Test.YtlaahgdikiiahaaCNby
import Derived.Test.YtlaahgdikiiahaaCGt3
set_option linter.unusedSimpArgs false
set_option linter.unusedVariables false
namespace Go.Proofs.Ytlaahgdikiiahaa
open Go.RowKit
theorem Small.fits' {N : Net} (h : Small N) : Fits N := ⟨by have := h.1; omega, fun i hi => by have := h.2.1 i hi; omega, by have := h.2.2.1; omega, by have := h.2.2.2; omega⟩
structure JA (n : Nat) (ess ess' : List (List (Int × Int))) (us : Nat → Value) (x0 : World) (b e b' B k j : Nat) (W : World) : Prop where
 mx : Mx n ess ess' k j
 own : ∀ i, i < ess.length → OwnE W b' (us i) (gl ess' i)
 but : KeptBut 40 x0 W
 keep : ∀ q, b ≤ q → q < e → W.heap[q]? = x0.heap[q]?
 low : LowB B x0 W
 size : W.heap.size = x0.heap.size
section
variable {n : Nat} {ess ess' : List (List (Int × Int))} {us : Nat → Value} {x0 W : World} {b e b' B k j ga na ca : Nat} {p : Int}
theorem JA.drew (h : JA n ess ess' us x0 b e b' B k j W) : JA n ess ess' us x0 b e b' B k j W.drew :=
 ⟨h.mx, fun i hi => (h.own i hi).below (Below.refl _ _).drew, fun q cs t fr hx ht => h.but q cs t fr hx ht, h.keep, ⟨h.low.os, h.low.tape, h.low.output, h.low.size, h.low.block⟩, h.size⟩
theorem JA.row (h : JA n ess ess' us x0 b e b' B k j W) (hj : dg ess k ≤ j) : JA n ess ess' us x0 b e b' B (k + 1) 0 W := ⟨h.mx.row hj, h.own, h.but, h.keep, h.low, h.size⟩
theorem JA.step (h : JA n ess ess' us x0 b e b' B k j W) (hk : k < ess.length) (hj : j < dg ess k) (hd : ∀ i j, i < ess.length → j < ess.length → i ≠ j → ∀ g, (us i).ownBlock = some g → (us j).ownBlock ≠ some g) (hu : us k = .slice (some ⟨ga, 0, none⟩) na ca) (hga : B ≤ ga) (hgb : ga < b ∨ e ≤ ga) (hp : p = (pt ess k j).1 + n) :
 JA n ess (set2 ess' k j ((pt ess k j).1 + n, (pt ess' k j).2)) us x0 b e b' B k (j + 1) (W.setCell ⟨ga, j * 2, none⟩ (.int .i64 p)) := by
 subst hp
 have hk' : k < ess'.length := by rw [h.mx.len]; exact hk
 have hok := h.own k hk
 rw [hu] at hok
 have hjl : j < (gl ess' k).length := by have := h.mx.deg k; unfold dg at this hj; omega
 obtain ⟨cs, hcs⟩ := hok.type ga rfl
 have kk : KeptBut 40 W (W.setCell ⟨ga, j * 2, none⟩ (.int .i64 ((pt ess k j).1 + n))) := KeptBut.of_set (p := ⟨ga, j * 2, none⟩) hcs _
 refine ⟨h.mx.next hk hj, fun i hi => ?_, h.but.trans kk, fun q h1 h2 => (Below.heap_setCell _ _ _ q (by rcases hgb with h3 | h3 <;> (simp only; omega))).trans (h.keep q h1 h2), h.low.trans (LowB.set (p := ⟨ga, j * 2, none⟩) hga _), by rw [← h.size]; simp [World.setCell]⟩
 unfold set2
 rw [gl_set hk']
 by_cases hia : i = k
 ·subst hia
  rw [if_pos rfl, hu]
  exact hok.put1 hjl
 ·rw [if_neg hia]
  refine (h.own i hi).keepB fun c hc => ?_
  have hne : c ≠ ga := fun e2 => hd i k hi hk hia c hc (by rw [hu, e2]; rfl)
  exact Below.heap_setCell _ _ _ c hne
end
set_option maxRecDepth 100000 in
set_option maxHeartbeats 8000000 in
theorem joined_any {S S' : Nat → Prop} (u u' : Value) (M N : Net) (w : World) (h : NetR w S u M) (h' : NetR w S' u' N) (hs : Small M) (hs' : Small N) (hp : 1 ≤ M.ends.length) (hp' : 1 ≤ N.ends.length) (hsym : Sym N.ends) :
 Calls Try.prog 14 #[u, u'] w (RetNt w (unionN M N)) := by
 have HM := Lib.hid h
 have HN := Lib.hid h'
 have HSY := Lib.hid hsym
 obtain ⟨ve, vi, vn, rfl, he, hi, hn⟩ := h
 obtain ⟨A, c, rfl, -, -, -⟩ := he
 obtain ⟨A1, c1, rfl, -, -, -⟩ := hi
 obtain ⟨A2, c2, rfl, -, -, -⟩ := hn
 obtain ⟨ve, vi, vn, rfl, he, hi, hn⟩ := h'
 obtain ⟨B, d, rfl, -, -, -⟩ := he
 obtain ⟨B1, d1, rfl, -, -, -⟩ := hi
 obtain ⟨B2, d2, rfl, -, -, -⟩ := hn
 have HS := Lib.hid hs
 have HS' := Lib.hid hs'
 have hsl := hs.1
 have hsl' := hs'.1
 have hsi := hs.2.2.1
 have hsn := hs.2.2.2
 have hsi' := hs'.2.2.1
 have hsn' := hs'.2.2.2
 obtain ⟨wz, hwz⟩ : ∃ wz, wz = (((w.alloc (.cells #[.slice A M.ends.length c, .slice A1 M.ids.length c1, .slice A2 M.inputs.length c2] 27)).alloc (.cells #[.slice B N.ends.length d, .slice B1 N.ids.length d1, .slice B2 N.inputs.length d2] 27)).alloc (.cells #[.slice none 0 0, .slice none 0 0, .slice none 0 0] 27)) := ⟨_, rfl⟩
 have hzs : wz.heap.size = w.heap.size + 3 := by rw [hwz]; simp
 have hbz : Below w.heap.size w wz := by rw [hwz]; exact (((Below.refl _ _).alloc (by simp) _).alloc (by simp) _).alloc (by simp; omega) _
 have HKM0 : Hid (Blk wz w.heap.size 27 #[.slice A M.ends.length c, .slice A1 M.ids.length c1, .slice A2 M.inputs.length c2]) := Lib.hid (by
  rw [hwz]
  have := ((Blk.new w 27 #[.slice A M.ends.length c, .slice A1 M.ids.length c1, .slice A2 M.inputs.length c2]).alloc (.cells #[.slice B N.ends.length d, .slice B1 N.ids.length d1, .slice B2 N.inputs.length d2] 27)).alloc (.cells #[.slice none 0 0, .slice none 0 0, .slice none 0 0] 27)
  simpa using this)
 have HKN : Hid (Blk wz (w.heap.size + 1) 27 #[.slice B N.ends.length d, .slice B1 N.ids.length d1, .slice B2 N.inputs.length d2]) := Lib.hid (by
  rw [hwz]
  have := (Blk.new (w.alloc (.cells #[.slice A M.ends.length c, .slice A1 M.ids.length c1, .slice A2 M.inputs.length c2] 27)) 27 #[.slice B N.ends.length d, .slice B1 N.ids.length d1, .slice B2 N.inputs.length d2]).alloc (.cells #[.slice none 0 0, .slice none 0 0, .slice none 0 0] 27)
  simpa using this)
 have HR : Hid (Blk wz (w.heap.size + 2) 27 #[.slice none 0 0, .slice none 0 0, .slice none 0 0]) := Lib.hid (by
  rw [hwz]
  have := Blk.new ((w.alloc (.cells #[.slice A M.ends.length c, .slice A1 M.ids.length c1, .slice A2 M.inputs.length c2] 27)).alloc (.cells #[.slice B N.ends.length d, .slice B1 N.ids.length d1, .slice B2 N.inputs.length d2] 27)) 27 #[.slice none 0 0, .slice none 0 0, .slice none 0 0]
  rwa [World.size_alloc, World.size_alloc] at this)
 have HB0 := Lib.hid hbz
 have HZ := Lib.hid hwz
 have h0 : w.heap.size < wz.heap.size := by omega
 have h1 : w.heap.size + 1 < wz.heap.size := by omega
 have h2 : w.heap.size + 2 < wz.heap.size := by omega
 clear hwz hbz hs hs' hzs hsym
 go_enter Try.func14, Try.ntmps14
 go_upto_region 1 with fail
 rw [← HZ.out]
 clear HZ
 have kM : ∀ (x : BW wz) i, x.wd.cell? ⟨w.heap.size, i, none⟩ = (#[.slice A M.ends.length c, .slice A1 M.ids.length c1, .slice A2 M.inputs.length c2] : Array Value)[i]? := fun x i => (x.cell _ _ (by omega)).trans (HKM0.out.cell i)
 have kN : ∀ (x : BW wz) i, x.wd.cell? ⟨w.heap.size + 1, i, none⟩ = (#[.slice B N.ends.length d, .slice B1 N.ids.length d1, .slice B2 N.inputs.length d2] : Array Value)[i]? := fun x i => (x.cell _ _ (by omega)).trans (HKN.out.cell i)
 refine wp_region_makeZ (fun i => match i with | 1 => some (mkNtE M) | 3 => some (mkNtE N) | 4 => some (mkB1 27 #[.slice none 0 0, .slice none 0 0, .slice none 0 0]) | 5 => some (mkB1 27 #[.slice none 0 0, .slice none 0 0, .slice none 0 0]) | _ => none) 6 1000 (by kernel_rfl) (by kernel_rfl) (by intro o ho; first | (cases ho; done) | (cases ho; intro _ _ _ _ h; exact h)) ?_
 simp only [List.take_succ_cons, List.take_zero, List.drop_succ_cons, List.drop_zero]
 refine wpMk_quiet 1 _ _ _ rfl rfl ?_
 simp only [List.take_succ_cons, List.take_zero, List.drop_succ_cons, List.drop_zero]
 repeat (go_big_quiet_step (fail))
 refine wpQuiet_nil ?_
 refine wpMk_make _ 11 rfl rfl (by simp) (fun x hneed => by { go_wp2_with (go_at_call 35; refine (copyNetwork_any _ M _ (HM.out.below (Below.then_ HB0.out x.h)) HS.out.fits').mono ?_; rintro e x' ⟨v, rfl, ho, hb⟩); exact mkNtE.gives hb ho }) rfl ?_
 rintro v11 b11 e11 ⟨E0, f0, E1, f1, E2, f2, rfl⟩
 simp only [Act.put, List.setIfInBounds_toArray, List.set_cons_zero, List.set_cons_succ]
 refine wpMk_quiet 1 _ _ _ rfl rfl ?_
 simp only [List.take_succ_cons, List.take_zero, List.drop_succ_cons, List.drop_zero]
 repeat (go_big_quiet_step (fail))
 refine wpQuiet_nil ?_
 refine wpMk_make _ 13 rfl rfl (by simp) (fun x hneed => by { go_wp2_with (go_at_call 35; refine (copyNetwork_any _ N _ (HN.out.below (Below.then_ HB0.out x.h)) HS'.out.fits').mono ?_; rintro e x' ⟨v, rfl, ho, hb⟩); exact mkNtE.gives hb ho }) rfl ?_
 rintro v13 b13 e13 ⟨G0, k0, G1, k1, G2, k2, rfl⟩
 simp only [Act.put, List.setIfInBounds_toArray, List.set_cons_zero, List.set_cons_succ]
 refine wpMk_make _ 5 rfl rfl (by simp) (fun x hneed => by { go_wp2_with fail; exact mkB1.gives }) rfl ?_
 rintro v5 b5 e5 ⟨g5, rfl⟩
 simp only [Act.put, List.setIfInBounds_toArray, List.set_cons_zero, List.set_cons_succ]
 refine wpMk_make _ 6 rfl rfl (by simp) (fun x hneed => by { go_wp2_with fail; exact mkB1.gives }) rfl ?_
 rintro v6 b6 e6 ⟨g6, rfl⟩
 simp only [Act.put, List.setIfInBounds_toArray, List.set_cons_zero, List.set_cons_succ]
 rintro x hbx ⟨F6, F5, F13, F11, -⟩ hdis hord
 obtain ⟨g, hg6, hb6, he6, hr6⟩ := F6
 cases hg6
 obtain ⟨g, hg5, hb5, he5, hr5⟩ := F5
 cases hg5
 obtain ⟨xN, hxN, hoN, hbN⟩ := F13
 obtain ⟨xM, hxM, hoM, hbM⟩ := F11
 simp only [Dis, List.pairwise_cons, List.mem_cons, List.not_mem_nil, forall_eq_or_imp, or_false, false_or, forall_eq] at hdis hord
 obtain ⟨hd65, ⟨hd613, hd611⟩⟩ := hdis.1
 obtain ⟨⟨hd513, hd511⟩, hd1311, -⟩ := hdis.2
 obtain ⟨⟨o1, o2, o3⟩, ⟨o4, o5, o6⟩, ⟨o7, o8, o9⟩, o10, o11, o12⟩ := hord
 have HF5 := Lib.hid hr5
 have HF6 := Lib.hid hr6
 have hz6 := hr6.lt
 have hz5 := hr5.lt
 have hg56 : g5 ≠ g6 := by omega
 have k5c := hr5.cell
 have k5f := hr5.free
 have k6c := hr6.cell
 have k6f := hr6.free
 have HBX := Lib.hid hbx
 have HMM := Lib.hid hoM
 have HNN := Lib.hid hoN
 have HKB := Lib.hid (And.intro hbM hbN)
 clear hr5 hr6 hdis hoM hoN hbM hbN
 have hq6 : Blk (set3 x g5 (.slice E0 M.ends.length f0) (.slice E1 M.ids.length f1) (.slice E2 M.inputs.length f2)) g6 27 #[.slice none 0 0, .slice none 0 0, .slice none 0 0] := (set3_block _ _ _ _ _ (Ne.symm hg56)).trans HF6.out
 have HX5 : Hid (Blk (set3 (set3 x g5 (.slice E0 M.ends.length f0) (.slice E1 M.ids.length f1) (.slice E2 M.inputs.length f2)) g6 (.slice G0 N.ends.length k0) (.slice G1 N.ids.length k1) (.slice G2 N.inputs.length k2)) g5 27 #[.slice E0 M.ends.length f0, .slice E1 M.ids.length f1, .slice E2 M.inputs.length f2]) := Lib.hid ((set3_block _ _ _ _ _ hg56).trans (set3_blk HF5.out))
 have HX6 : Hid (Blk (set3 (set3 x g5 (.slice E0 M.ends.length f0) (.slice E1 M.ids.length f1) (.slice E2 M.inputs.length f2)) g6 (.slice G0 N.ends.length k0) (.slice G1 N.ids.length k1) (.slice G2 N.inputs.length k2)) g6 27 #[.slice G0 N.ends.length k0, .slice G1 N.ids.length k1, .slice G2 N.inputs.length k2]) := Lib.hid (set3_blk hq6)
 have hqc := hq6.cell
 have hqf := hq6.free
 unfold set3 at hqc hqf
 have HLX : Hid (LowB wz.heap.size wz (set3 (set3 x g5 (.slice E0 M.ends.length f0) (.slice E1 M.ids.length f1) (.slice E2 M.inputs.length f2)) g6 (.slice G0 N.ends.length k0) (.slice G1 N.ids.length k1) (.slice G2 N.inputs.length k2))) := Lib.hid (LowB.of_below (set3_below (set3_below HBX.out (by omega) _ _ _) (by omega) _ _ _) (Nat.le_refl _))
 have hxs := (set3_below (p := g6) (set3_below (p := g5) (Below.refl 0 x) (Nat.zero_le _) (.slice E0 M.ends.length f0) (.slice E1 M.ids.length f1) (.slice E2 M.inputs.length f2)) (Nat.zero_le _) (.slice G0 N.ends.length k0) (.slice G1 N.ids.length k1) (.slice G2 N.inputs.length k2)).size
 have HKX : Hid (∀ k, k ≠ g5 → k ≠ g6 → (set3 (set3 x g5 (.slice E0 M.ends.length f0) (.slice E1 M.ids.length f1) (.slice E2 M.inputs.length f2)) g6 (.slice G0 N.ends.length k0) (.slice G1 N.ids.length k1) (.slice G2 N.inputs.length k2)).heap[k]? = x.heap[k]?) := Lib.hid fun k n5 n6 => (set3_block _ _ _ _ _ n6).trans (set3_block _ _ _ _ _ n5)
 go_upto_region 2 with fail
 clear k5c k5f k6c k6f hqc hqf hq6
 show Code.wp _ _ _ _ (set3 (set3 x g5 (.slice E0 M.ends.length f0) (.slice E1 M.ids.length f1) (.slice E2 M.inputs.length f2)) g6 (.slice G0 N.ends.length k0) (.slice G1 N.ids.length k1) (.slice G2 N.inputs.length k2))
 generalize set3 (set3 x g5 (.slice E0 M.ends.length f0) (.slice E1 M.ids.length f1) (.slice E2 M.inputs.length f2)) g6 (.slice G0 N.ends.length k0) (.slice G1 N.ids.length k1) (.slice G2 N.inputs.length k2) = x0 at *
 have HKM : Hid (∀ k, b11 ≤ k → k < xM.heap.size → x0.heap[k]? = xM.heap[k]?) := Lib.hid fun k h1 h2 => (HKX.out k (by omega) (by omega)).trans (HKB.out.1.block k h2)
 have HKN : Hid (∀ k, b13 ≤ k → k < xN.heap.size → x0.heap[k]? = xN.heap[k]?) := Lib.hid fun k h1 h2 => (HKX.out k (by omega) (by omega)).trans (HKB.out.2.block k h2)
 have hmx : xM.heap.size ≤ x0.heap.size := by omega
 have hnx : xN.heap.size ≤ x0.heap.size := by omega
 obtain ⟨ve, vi, vn, e, ⟨usM, hrM, hiM, hdM⟩, hoI, hoZ, hoA⟩ := HMM.out
 simp only [Value.agg.injEq, Array.mk.injEq, List.cons.injEq, and_true] at e
 obtain ⟨rfl, rfl, rfl⟩ := e
 obtain ⟨ve, vi, vn, e, ⟨usN, hrN, hiN, hdN⟩, hpI, hpZ, hpA⟩ := HNN.out
 simp only [Value.agg.injEq, Array.mk.injEq, List.cons.injEq, and_true] at e
 obtain ⟨rfl, rfl, rfl⟩ := e
 have HRM := Lib.hid (ownsRow_keepB hrM HKM.out)
 have HRN := Lib.hid (ownsRow_keepB hrN HKN.out)
 have HUM := Lib.hid (fun i hi => (hiM i hi).keepB fun b hb => HKM.out b ((hiM i hi).lt b hb).1 ((hiM i hi).lt b hb).2)
 have HUN := Lib.hid (fun i hi => (hiN i hi).keepB fun b hb => HKN.out b ((hiN i hi).lt b hb).1 ((hiN i hi).lt b hb).2)
 have HLM := Lib.hid (fun i hi => (hiM i hi).lt)
 have HLN := Lib.hid (fun i hi => (hiN i hi).lt)
 have HDM := Lib.hid hdM
 have HDN := Lib.hid hdN
 have HOI := Lib.hid (hoI.keepB HKM.out)
 have HOZ := Lib.hid (hoZ.keepB HKM.out)
 have HPI := Lib.hid (hpI.keepB HKN.out)
 have HPZ := Lib.hid (hpZ.keepB HKN.out)
 have HOA := Lib.hid hoA
 have HOL := Lib.hid (And.intro hoI.blk (And.intro hoZ.blk (And.intro hpI.blk hpZ.blk)))
 obtain ⟨gN, hGN⟩ : ∃ gN, G0 = some ⟨gN, 0, none⟩ := by
  rcases hrN.2 with ⟨h1, h0⟩ | ⟨g', cap', cur', h1, -⟩
  ·omega
  ·simp only [Value.slice.injEq] at h1; exact ⟨g', h1.1⟩
 subst hGN
 clear hrM hiM hdM hoI hoZ hoA hrN hiN hdN hpI hpZ hpA HMM HNN HKB HBX HKX
 have HJ0 : Hid (JA M.ends.length N.ends N.ends usN x0 b11 xM.heap.size b13 wz.heap.size 0 0 x0) := Lib.hid ⟨Mx.start _ _, HUN.out, fun _ _ _ _ _ _ => rfl, fun _ _ _ => rfl, ⟨rfl, rfl, rfl, Nat.le_refl _, fun _ _ => rfl⟩, rfl⟩
 obtain ⟨csN, frN, hbN⟩ := rowType HRN.out gN rfl
 have HBN := Lib.hid hbN
 have k6 := HX6.out.cell
 clear hbN
 go_wp2_with fail
 clear k6
 go_loopw [17] (fun x17 wr => ∃ (k : Nat) (ess' : List (List (Int × Int))), k ≤ N.ends.length ∧ x17 = .int .i64 k ∧ JA M.ends.length N.ends ess' usN x0 b11 xM.heap.size b13 wz.heap.size k 0 wr)
  (fun x17 _ => N.ends.length - (intOf x17).toNat)
 case atStart => exact ⟨0, N.ends, Nat.zero_le _, rfl, HJ0.out⟩
 case round =>
  obtain ⟨k, ess', hk, rfl, hja⟩ := hrel
  obtain ⟨wr2, rfl⟩ : ∃ wr2, wr2 = wr := ⟨_, rfl⟩
  have HJ := Lib.hid hja
  clear HJ0 hja
  by_cases hlt : k < N.ends.length
  ·obtain ⟨Ak, ck, hsh⟩ := (HUN.out k hlt).shape
   have hck : wr2.cell? ⟨gN, k, none⟩ = some (.slice Ak (gl N.ends k).length ck) := (World.cell?_of_block (w := x0) (HJ.out.but gN _ _ _ HBN.out (by decide))).trans ((OwnEs.at_ HRN.out hlt).1.trans (by rw [hsh]))
   have HSH := Lib.hid hsh
   have iv1 : (0 : Int) ≤ (k : Int) := by omega
   have iv2 : (k : Int) < (N.ends.length : Int) := by omega
   have hdk := HS'.out.2.1 k hlt
   obtain ⟨dk, hdk'⟩ : ∃ dk, dk = (gl N.ends k).length := ⟨_, rfl⟩
   rw [← hdk'] at hck hdk
   have HDK := Lib.hid hdk'
   clear hsh hdk'
   go_wp2_with fail
   go_loopw [23] (fun x23 wi => ∃ (j : Nat) (ess'' : List (List (Int × Int))), j ≤ dk ∧ x23 = .int .i64 j ∧ JA M.ends.length N.ends ess'' usN x0 b11 xM.heap.size b13 wz.heap.size k j wi)
    (fun x23 _ => dk - (intOf x23).toNat)
   case atStart => exact ⟨0, ess', Nat.zero_le _, rfl, HJ.out⟩
   case round =>
    clear HJ hck
    obtain ⟨j, ess2, hj, rfl, hja⟩ := hrel
    obtain ⟨wi2, rfl⟩ : ∃ wi2, wi2 = wr := ⟨_, rfl⟩
    have HJ := Lib.hid hja
    clear hja
    by_cases hjl : j < dk
    ·have hjd : j < dg N.ends k := by unfold dg; rw [← HDK.out]; exact hjl
     obtain ⟨ga, ca, hus, hgB, hgl, -, -⟩ := (HUN.out k hlt).addr (by rw [← HDK.out]; omega)
     have hinj := HSH.out.symm.trans hus
     simp only [Value.slice.injEq] at hinj
     obtain ⟨rfl, -, rfl⟩ := hinj
     have hou := HJ.out.own k hlt
     rw [hus] at hou
     have hjl2 : j < (gl ess2 k).length := by have := HJ.out.mx.deg k; unfold dg at this; have := HDK.out; omega
     have hat := hou.at_ hjl2
     have hnow := HJ.out.mx.now hlt hjd
     unfold pt at hnow
     rw [hnow] at hat
     obtain ⟨q, jj, hpt, hq, -⟩ := HSY.out k j hlt hjd
     unfold pt at hpt
     rw [hpt] at hat
     have hc0 := hat.1.1
     have hf0 := hat.2
     have hkM : wi2.cell? ⟨w.heap.size, 0, none⟩ = some (.slice A M.ends.length c) := (World.cell?_of_block (w := x0) (HJ.out.low.block _ (by omega))).trans ((World.cell?_of_block (w := wz) (HLX.out.block _ (by omega))).trans (HKM0.out.cell 0))
     have hw1 : IntKind.i64.wrap ((q : Int) + (M.ends.length : Int)) = (q : Int) + (M.ends.length : Int) := IntWalk.i64_in _ (by omega)
     have hgaM : ga < b11 ∨ xM.heap.size ≤ ga := by have h1 := HLN.out k hlt ga (by rw [hus]; rfl); omega
     have hgaW : wz.heap.size ≤ ga := by omega
     have HST := Lib.hid (HJ.out.step (p := (q : Int) + (M.ends.length : Int)) hlt hjd HDN.out hus hgaW hgaM (by unfold pt; rw [hpt]))
     have jv1 : (0 : Int) ≤ (j : Int) := by omega
     have jv2 : (j : Int) < (dk : Int) := by omega
     have hus' := hus
     have hpt' := hpt
     clear hat hou hus hnow hpt
     have HST1 := Lib.hid HST.out.drew
     have HST2 := Lib.hid (HJ.out.drew.step (p := (q : Int) + (M.ends.length : Int)) hlt hjd HDN.out hus' hgaW hgaM (by unfold pt; rw [hpt']))
     clear hus' hpt'
     go_wp2_with fail
     go_still_tail 11, (by kernel_rfl)
     change wpList _ _ _ _ _ wi2.drew
     go_wp2_with fail
     go_roundw
     case rel => exact ⟨j + 1, _, by omega, by go_num, by first | exact HST1.out | exact HST2.out⟩
     case measure => simp [intOf]; omega
    ·obtain rfl : j = dk := by omega
     have hjx : ¬ ((j : Int) < (j : Int)) := by omega
     have HJR := Lib.hid (HJ.out.row (by unfold dg; rw [← HDK.out]; exact Nat.le_refl _))
     clear hj hjl
     go_wp2_with fail
     go_roundw
     case rel => exact ⟨k + 1, ess2, by omega, by go_num, HJR.out⟩
     case measure => simp [intOf]; omega
  ·obtain rfl : k = N.ends.length := by omega
   have hess := HJ.out.mx.done (Nat.le_refl _)
   have hjx : ¬ ((N.ends.length : Int) < (N.ends.length : Int)) := by omega
   subst hess
   clear hk hlt
   have k5 : Blk wr2 g5 27 #[.slice E0 M.ends.length f0, .slice E1 M.ids.length f1, .slice E2 M.inputs.length f2] := (HJ.out.but g5 _ _ _ HX5.out (by decide)).trans HX5.out
   have k6 : Blk wr2 g6 27 #[.slice (some ⟨gN, 0, none⟩) N.ends.length k0, .slice G1 N.ids.length k1, .slice G2 N.inputs.length k2] := (HJ.out.but g6 _ _ _ HX6.out (by decide)).trans HX6.out
   have hkm : ∀ b, b11 ≤ b → b < xM.heap.size → wr2.heap[b]? = x0.heap[b]? := HJ.out.keep
   have hw2 := HJ.out.size
   have HLB := Lib.hid (LowB.trans HLX.out HJ.out.low)
   have hrM2 := ownsRow_mono (ownsRow_but HRM.out HJ.out.but (by decide)) (by omega : wz.heap.size ≤ b11)
   have hrN2 := ownsRow_mono (ownsRow_but HRN.out HJ.out.but (by decide)) (by omega : wz.heap.size ≤ b13)
   have hiM2 := fun i hi => ((HUM.out i hi).keepB fun b hb => hkm b (HLM.out i hi b hb).1 (HLM.out i hi b hb).2).mono (by omega : wz.heap.size ≤ b11)
   have hlm : (N.ends.map (shiftE M.ends.length)).length = N.ends.length := List.length_map ..
   have hiN2 : ∀ i, i < (N.ends.map (shiftE M.ends.length)).length → OwnE wr2 wz.heap.size (usN i) (gl (N.ends.map (shiftE M.ends.length)) i) := fun i hi => (HJ.out.own i (by omega)).mono (by omega)
   have HTW : Hid (Two wr2 wz.heap.size g5 g6 (.slice E0 M.ends.length f0) (.slice E1 M.ids.length f1) (.slice E2 M.inputs.length f2) M (.slice (some ⟨gN, 0, none⟩) N.ends.length k0) (.slice G1 N.ids.length k1) (.slice G2 N.inputs.length k2) N.ids N.inputs) := Lib.hid ⟨⟨k5, ⟨_, _, _, rfl, ⟨usM, hrM2, hiM2, HDM.out⟩, (HOI.out.but HJ.out.but (by decide)).mono (by omega), (HOZ.out.but HJ.out.but (by decide)).mono (by omega), HOA.out⟩⟩, k6,
    (HPI.out.but HJ.out.but (by decide)).mono (by omega), (HPZ.out.but HJ.out.but (by decide)).mono (by omega), apart_of HOL.out.1 HOL.out.2.2.1 (by omega), apart_of HOL.out.1 HOL.out.2.2.2 (by omega), apart_of HOL.out.2.1 HOL.out.2.2.2 (by omega)⟩
   have HVS : Hid (∀ (j : Nat) (q : Value), ((List.range N.ends.length).map usN)[j]? = some q → wr2.cell? ⟨gN, j, none⟩ = some q) := Lib.hid fun j q hq => by
    by_cases h : j < N.ends.length
    ·have := (OwnEs.at_ hrN2 h).1
     simp [h] at hq
     rw [this, hq]
    ·simp [h] at hq
   have HV1 : Hid (∀ q ∈ (List.range N.ends.length).map usN, q.oneCell' = true) := Lib.hid fun q hq => by
    obtain ⟨i, hi, rfl⟩ := List.mem_map.1 hq
    obtain ⟨a, b, e⟩ := (HUN.out i (List.mem_range.1 hi)).shape
    rw [e]; rfl
   have HRM2 := Lib.hid hrM2
   have HIM2 := Lib.hid hiM2
   have HIN2 := Lib.hid hiN2
   have HDN2 : Hid (∀ i j, i < (N.ends.map (shiftE M.ends.length)).length → j < (N.ends.map (shiftE M.ends.length)).length → i ≠ j → ∀ g, (usN i).ownBlock = some g → (usN j).ownBlock ≠ some g) := Lib.hid fun i j hi hj => HDN.out i j (by omega) (by omega)
   have HXX : Hid (∀ i j, i < M.ends.length → j < (N.ends.map (shiftE M.ends.length)).length → ∀ g, (usM i).ownBlock = some g → (usN j).ownBlock ≠ some g) := Lib.hid fun i j hi hj g e1 e2 => by
    have h1 := HLM.out i hi g e1
    have h2 := HLN.out j (by omega) g e2
    omega
   have HL2 := Lib.hid hlm
   have c5 := k5.cell
   have f5 := k5.free
   have c6 := k6.cell
   have HK5 := Lib.hid k5
   clear k5 k6 hkm hrM2 hrN2 hiM2 hiN2 hlm HJ HRM HRN HUM HUN HOI HOZ HPI HPZ
   go_upto_region 12 with (at_builtin; refine wpList_append_slices _ rfl (.tmp 40) (.tmp 42) rfl wz.heap.size (.slice E0 M.ends.length f0) M.ends.length ((List.range M.ends.length).map usM) rfl HRM2.out gN N.ends.length k0 ((List.range N.ends.length).map usN) rfl (by simp) HVS.out HV1.out (by omega) (by omega) (by omega) ?_; intro A8 c8 w8 hr8 hg8 hl8; have hx8 : Blk w8 g5 27 #[.slice E0 M.ends.length f0, .slice E1 M.ids.length f1, .slice E2 M.inputs.length f2] := ((KeptBut.of_grown hg8 (rowType HRM2.out)) g5 _ _ _ HK5.out (by decide)).trans HK5.out; have fx8 := hx8.free; have cx8 := hx8.cell)
   have hes8 := OwnEs.joinRows HIM2.out HDM.out HIN2.out HDN2.out HXX.out (by rw [HL2.out]; exact hr8) (KeptBut.of_grown hg8 (rowType HRM2.out))
   obtain ⟨t1, t2⟩ := Two.appX HTW.out (Ne.symm hg56) (by omega) (by omega) HRM2.out hes8 hg8
   have HT1 := Lib.hid t1
   have HLB1 := Lib.hid (HLB.out.trans t2)
   have hz8 := t2.size
   clear hr8 hg8 hl8 hes8 t2 c5 f5 c6 fx8 cx8 hx8 HRM2 HIM2 HIN2 HDN2 HXX HVS HV1 HTW HK5
   generalize w8.setCell ⟨g5, 0, none⟩ (.slice A8 (M.ends.length + N.ends.length) c8) = wA at *
   have c5 := t1.nb.bx.cell
   have f5 := t1.nb.bx.free
   have c6 := t1.bx.cell
   obtain ⟨-, u2, u3, -⟩ := t1.nb.parts
   have HU2 := Lib.hid u2
   have HPI := Lib.hid t1.pI.ints
   clear t1 u2 u3
   go_upto_region 13 with (at_builtin; go_loud (refine wpList_append_intsL _ rfl (.tmp 46) (.tmp 48) rfl wz.heap.size (.slice E1 M.ids.length f1) M.ids rfl HU2.out (.slice G1 N.ids.length k1) N.ids rfl HPI.out (by omega) (by omega) ?_; intro A9 c9 w9 ho9 hg9 hl9; have hx9 : Blk w9 g5 27 #[.slice A8 (M.ends.length + N.ends.length) c8, .slice E1 M.ids.length f1, .slice E2 M.inputs.length f2] := ((KeptBut.of_grown hg9 (rowType HU2.out)) g5 _ _ _ HT1.out.nb.bx (by decide)).trans HT1.out.nb.bx; have fx9 := hx9.free; have cx9 := hx9.cell))
   obtain ⟨t1, t3, t4, t2⟩ := Two.appY HT1.out (Ne.symm hg56) (by omega) (by omega) ho9 hg9 hl9
   have HT2 := Lib.hid t1
   have HLB2 := Lib.hid (HLB1.out.trans t2)
   have hz9 := t2.size
   clear hg9 hl9 ho9 t2 c5 f5 c6 fx9 cx9 hx9 HU2 HPI HT1
   generalize w9.setCell ⟨g5, 1, none⟩ (.slice A9 (M.ids.length + N.ids.length) c9) = wB at *
   have c5 := t1.bx.cell
   have f5 := t1.bx.free
   have c6 := t3.cell
   obtain ⟨-, u2, u3, -⟩ := t1.parts
   have HU3 := Lib.hid u3
   have HPZ := Lib.hid t4.ints
   clear t1 u2 u3 t3 t4
   go_upto_region 14 with (at_builtin; refine wpList_append_intsL _ rfl (.tmp 52) (.tmp 54) rfl wz.heap.size (.slice E2 M.inputs.length f2) M.inputs rfl HU3.out (.slice G2 N.inputs.length k2) N.inputs rfl HPZ.out (by omega) (by omega) ?_; intro A10 c10 w10 ho10 hg10 hl10; have hx10 : Blk w10 g5 27 #[.slice A8 (M.ends.length + N.ends.length) c8, .slice A9 (M.ids.length + N.ids.length) c9, .slice E2 M.inputs.length f2] := ((KeptBut.of_grown hg10 (rowType HU3.out)) g5 _ _ _ HT2.out.bx (by decide)).trans HT2.out.bx; have fx10 := hx10.free; have cx10 := hx10.cell)
   obtain ⟨t1, t2⟩ := NB.appZL HT2.out (by omega) (by omega) ho10 hg10 hl10
   have HT3 := Lib.hid t1
   have HLB3 := Lib.hid (HLB2.out.trans t2)
   have hz10 := t2.size
   clear hg10 hl10 ho10 t2 c5 f5 c6 fx10 cx10 hx10 HU3 HPZ HT2
   generalize w10.setCell ⟨g5, 2, none⟩ (.slice A10 (M.inputs.length + N.inputs.length) c10) = wC at *
   have c5 := t1.bx.cell
   have hres : Blk wC (w.heap.size + 2) 27 #[.slice none 0 0, .slice none 0 0, .slice none 0 0] := (HLB3.out.block (w.heap.size + 2) (by omega)).trans HR.out
   obtain ⟨q1, q2, q3⟩ := resStoreT (w := w) hres (by omega) (belowLow HB0.out HLB3.out (by omega)) t1.ow (by omega)
   have hc := q1.cell
   have HFI := Lib.hid (And.intro q2 q3)
   have kc := hres.cell
   have kf := hres.free
   have s3 := Lib.hid hres
   clear q1 q2 q3 t1
   unfold set3 at hc
   go_wp2_with fail
   obtain ⟨s0, s1, s2⟩ := res3 (x := .slice A8 (M.ends.length + N.ends.length) c8) (y := .slice A9 (M.ids.length + N.ids.length) c9) (z := .slice A10 (M.inputs.length + N.inputs.length) c10) s3.out
   exact bodyPost_ret (v := .agg #[.slice A8 (M.ends.length + N.ends.length) c8, .slice A9 (M.ids.length + N.ids.length) c9, .slice A10 (M.inputs.length + N.inputs.length) c10]) (by simp [results, Try.results14, go_sem, hc, s0, s1, s2]) rfl ⟨_, rfl, HFI.out.1, HFI.out.2⟩
end Go.Proofs.Ytlaahgdikiiahaa
