/- Parts of the proof. -/
import Derived.Test.YtolpiolnhgpjjaaGreatCJn31
import Derived.Laws.StructEq
import Derived.Deep.RegionHeld3
import Derived.Deep.DrawnRows
set_option linter.unusedSimpArgs false
set_option linter.unusedVariables false
namespace Go.Proofs.YtolpiolnhgpjjaaGreat
section
open Go.RowKit
attribute [local go_sem] BW.cell BW.frozen
open Go.BigFrame
theorem th {xs : List Int} {lo hi : Int} (h : q7 xs lo hi xs.length) : xs.Pairwise (· < ·) := by
 rw [List.pairwise_iff_getElem];intro i j hi hj hij
 have key : ∀ d i, i + d + 1 < xs.length → gi xs i < gi xs (i + d + 1) := by
  intro d
  induction d with
  | zero => intro i h1; exact (h (i + 1) (by omega)).2 (by omega)
  | succ d ih =>
   intro i h1;have h2 := ih i (by omega);have h3 := (h (i + d + 1 + 1) (by omega)).2 (by omega);have h4 : i + (d + 1) + 1 = i + d + 1 + 1 := by omega
   rw [h4];have h5 : i + d + 1 + 1 - 1 = i + d + 1 := by omega
   rw [h5] at h3;omega
 have := key (j - i - 1) i (by omega);rw [show i + (j - i - 1) + 1 = j by omega, cf hi, cf hj] at this;exact this
theorem j8 (xs : List Int) : (i7 xs).Perm xs := List.mergeSort_perm ..
theorem J0 (xs : List Int) : (i7 xs).Pairwise (· ≤ ·) := by
 have := List.pairwise_mergeSort (le := fun x y : Int => decide (x ≤ y)) (by intro a b c h1 h2; simp at *; omega) (by intro a b; simp; omega) xs;exact this.imp (by intro a b h; simpa using h)
theorem nh {xs : List Int} : xs.Nodup ↔ ∀ i, i < xs.length → qb (xs.take i) (gi xs i) = false := by
 constructor
 ·intro h i hi;rw [← Bool.not_eq_true, np];intro hm;obtain ⟨k, hk, e⟩ := List.getElem_of_mem hm;have hk' : k < i := by simp at hk; omega
  rw [List.getElem_take] at e;rw [cf hi] at e;exact List.pairwise_iff_getElem.1 (List.nodup_iff_pairwise_ne.1 h) k i (by omega) hi hk' e
 ·intro h;rw [List.nodup_iff_pairwise_ne, List.pairwise_iff_getElem];intro i j hi hj hij e;have := h j hj;rw [← Bool.not_eq_true, np] at this;apply this;rw [cf hj, ← e];have : (xs.take j)[i]'(by simp; omega) = xs[i] := List.getElem_take;rw [← this];exact List.getElem_mem _
theorem M1 (xs : List Int) : la (i7 xs) 1 999999 = true ↔ ∀ i, i < xs.length → inB (gi xs i) 1 999999 = true ∧ qb (xs.take i) (gi xs i) = false := by
 rw [ob];constructor
 ·intro h;have hnd : xs.Nodup := (j8 xs).nodup_iff.1 ((th h).imp (by intro a b h; omega));intro i hi;refine ⟨?_, nh.1 hnd i hi⟩;have hm : gi xs i ∈ i7 xs := (j8 xs).mem_iff.2 (by rw [cf hi]; exact List.getElem_mem hi);obtain ⟨k, hk, e⟩ := List.getElem_of_mem hm;have := (h k hk).1;rwa [cf hk, e] at this
 ·intro h i hi;have hnd : (i7 xs).Nodup := (j8 xs).nodup_iff.2 (nh.2 fun i hi => (h i hi).2);refine ⟨?_, fun h0 => ?_⟩
  ·have hm : gi (i7 xs) i ∈ xs := (j8 xs).mem_iff.1 (by rw [cf hi]; exact List.getElem_mem hi);obtain ⟨k, hk, e⟩ := List.getElem_of_mem hm;have := (h k hk).1;rwa [cf hk, e] at this
  ·have h1 := List.pairwise_iff_getElem.1 (J0 xs) (i - 1) i (by omega) hi (by omega);have h2 := List.pairwise_iff_getElem.1 hnd (i - 1) i (by omega) hi (by omega);rw [cf (by omega), cf hi];omega
theorem A6 (xs : List Int) (n : Int) : nl xs n = rz xs n := by
 rw [Bool.eq_iff_iff];simp only [nl, rz, Bool.or_eq_true, Bool.and_eq_true, M1, decide_eq_true_eq, beq_iff_eq];constructor
 ·rintro (h | ⟨h1, h2⟩)
  ·exact ⟨fun i hi => absurd hi (by omega), .inl h⟩
  ·exact ⟨h2, .inr h1⟩
 ·rintro ⟨h1, h2 | h2⟩
  ·exact .inl h2
  ·exact .inr ⟨h2, h1⟩
set_option maxRecDepth 100000 in
set_option maxHeartbeats 2000000 in
theorem zw {S : Nat → Prop} (v : Value) (N : Net) (w : World) (h : NetR w S v N) (hsh : N.ids.length ≤ 2097152) :
 Calls Tryz.prog 55 #[v] w (o5 w (.bool (bm N))) := by
 have HNR := Lib.hid h;obtain ⟨ve, vi, vn, rfl, he, hi, hn⟩ := h;have hi' := hi;have hn' := hn;obtain ⟨A1, c1, rfl, hl1, hm1, -⟩ := hi';obtain ⟨A2, c2, rfl, hl2, hm2, -⟩ := hn';obtain ⟨A, c, rfl, hnc, hm, hx⟩ := he;unfold maxLen at hm1 hm2 hm;have hb0 : ∀ o1, Below w.heap.size w (w.alloc o1) := fun o1 => (Below.refl _ _).alloc (Nat.le_refl _) _;have HB0 := Lib.hid hb0;have HI := Lib.hid hi;have HN := Lib.hid hn;have HX := Lib.hid hx;clear hi hn hx hb0;have CI := fun n => Lib.hid (fun (W : World) (hW : Below w.heap.size w W) => K9 _ N.ids n W (HI.out.below hW) hsh);have CN := fun n => Lib.hid (fun (W : World) (hW : Below w.heap.size w W) => Cl _ N.inputs n W (HN.out.below hW));cases h1 : inB (N.ends.length : Int) 1 40
 ·have HT : Hid (bm N = false) := cx fun h => by have := h.1; rw [h1] at this; cases this
  have H1 := Lib.hid h1;clear h1
  go_enter Tryz.func55, Tryz.ntmps55
  go_wp2_with (go_at_call 92; refine (dn _ _ _ _).mono ?_; rintro e w1 ⟨rfl, rfl⟩; rw [H1.out])
  go_ret
  exact ⟨by rw [HT.out]; rfl, HB0.out _⟩
 have hle := (dz.1 h1).2;have hge := (dz.1 h1).1;have H1 := Lib.hid h1;clear h1;cases h2 : nl N.ids (N.ends.length : Int)
 ·have HT : Hid (bm N = false) := cx fun h => by have := h.2.1; rw [← A6, h2] at this; cases this
  have H2 := Lib.hid h2;clear h2
  go_enter Tryz.func55, Tryz.ntmps55
  go_wp2_with (first | (go_at_call 92; refine (dn _ _ _ _).mono ?_; rintro e w1 ⟨rfl, rfl⟩; rw [H1.out]) | (go_at_call 143; refine ((CI _).out _ (HB0.out _)).mono ?_; rintro e w1 ⟨rfl, hb1⟩; rw [H2.out]; have HB1 := Lib.hid (Below.then_ (HB0.out _) hb1); clear hb1))
  go_ret
  exact ⟨by rw [HT.out]; rfl, HB1.out⟩
 have H2 := Lib.hid h2;clear h2;cases h4 : ((N.inputs.length : Int) == (N.ends.length : Int) && qk N.inputs 0 9)
 ·have HT : Hid (bm N = false) := cx fun h => by have h3 := h.2.2.1; have h5 := h.2.2.2.1; rw [h3, h5] at h4; simp at h4
  have H4 := Lib.hid h4;clear h4
  go_enter Tryz.func55, Tryz.ntmps55
  go_wp2_with fail
  refine (dn _ _ _ _).mono ?_;rintro e w1 ⟨rfl, rfl⟩;rw [H1.out]
  go_wp2_with fail
  refine ((CI _).out _ (HB0.out _)).mono ?_;rintro e w1 ⟨rfl, hb1⟩;rw [H2.out];have k1 := Vf hb1;have HB1 := Lib.hid (Below.then_ (HB0.out _) hb1);clear hb1
  go_wp2_with fail
  refine ((CN _).out _ HB1.out).mono ?_;rintro e w2 ⟨rfl, hb2⟩;rw [H4.out];have HB2 := Lib.hid (Below.then_ HB1.out hb2);clear hb2
  go_wp2_with fail
  go_ret
  exact ⟨by rw [HT.out]; rfl, HB2.out⟩
 have H3 : Hid (N.inputs.length = N.ends.length) := by
  simp only [Bool.and_eq_true, beq_iff_eq] at h4;exact Int.ofNat.inj h4.1
 have H5 : Hid (qk N.inputs 0 9 = true) := by
  simp only [Bool.and_eq_true] at h4;exact h4.2
 have H4 := Lib.hid h4;clear h4
 go_enter Tryz.func55, Tryz.ntmps55
 go_wp2_with fail
 refine (dn _ _ _ _).mono ?_;rintro e w1 ⟨rfl, rfl⟩;rw [H1.out]
 go_wp2_with fail
 refine ((CI _).out _ (HB0.out _)).mono ?_;rintro e w1 ⟨rfl, hb1⟩;rw [H2.out];have k1 := Vf hb1;have K1 := Lib.hid (Blk.below (Blk.new w _ _) hb1);have HB1 := Lib.hid (Below.then_ (HB0.out _) hb1);clear hb1
 go_wp2_with fail
 refine ((CN _).out _ HB1.out).mono ?_;rintro e w2 ⟨rfl, hb2⟩;rw [H4.out];have K2 := Lib.hid (K1.out.below hb2);have HB2 := Lib.hid (Below.then_ HB1.out hb2);clear hb2 k1;have k2 := K2.out.cell
 go_wp2_with fail
 clear k2 CI CN
 go_loopw [33] (fun i wr => ∃ k : Nat, k ≤ N.ends.length ∧ i = .int .i64 k ∧ (∀ j, j < k → Mz N j) ∧ Blk wr w.heap.size 27 #[.slice A N.ends.length c, .slice A1 N.ids.length c1, .slice A2 N.inputs.length c2] ∧ Below w.heap.size w wr)
  (fun i _ => N.ends.length - (intOf i).toNat)
 case atStart => exact ⟨0, Nat.zero_le _, rfl, fun j hj => absurd hj (Nat.not_lt_zero _), K2.out, HB2.out⟩
 case round =>
  clear HB1 HB2 K1 K2;obtain ⟨wo, rfl⟩ : ∃ wo : World, wo = wr := ⟨_, rfl⟩;obtain ⟨k, hk, rfl, hs, hblk, hbel⟩ := hrel;have HS := Lib.hid hs;clear hs
  by_cases hlt : k < N.ends.length
  ·obtain ⟨b, off, rfl, -, hc⟩ := HX.out (by omega);obtain ⟨u, hu, A', c', rfl, hn', hm', hc'⟩ := hc k hlt;unfold maxLen at hm';have hcell : wo.cell? ⟨b, off + k, none⟩ = some (.slice A' (gl N.ends k).length c') := by rw [hbel.cell (by exact a6 hu)]; exact hu
   have HC := Lib.hid hc;have HC' := Lib.hid hc';have HBL := Lib.hid hblk;have HB := Lib.hid hbel;clear hc hc' hblk hbel hu
   by_cases h6 : (gl N.ends k).length ≤ 6
   case neg =>
    have HT : Hid (bm N = false) := cx fun h => h6 (h.2.2.2.2 k hlt).1
    go_wp2
    go_ret
    exact ⟨by rw [HT.out]; rfl, HB.out⟩
   go_wp2
   go_loopw [43] (fun i wr2 => ∃ j : Nat, j ≤ (gl N.ends k).length ∧ i = .int .i64 j ∧ (∀ i, i < j → pd N k i) ∧ Blk wr2 w.heap.size 27 #[.slice (some ⟨b, off, none⟩) N.ends.length c, .slice A1 N.ids.length c1, .slice A2 N.inputs.length c2] ∧ Below w.heap.size w wr2)
    (fun i _ => (gl N.ends k).length - (intOf i).toNat)
   case atStart => exact ⟨0, Nat.zero_le _, rfl, fun j hj => absurd hj (Nat.not_lt_zero _), HBL.out, HB.out⟩
   case round =>
    obtain ⟨j, hj, rfl, hs2, hblk2, hbel2⟩ := hrel;have HS2 := Lib.hid hs2;clear hs2
    by_cases hlt2 : j < (gl N.ends k).length
    ·obtain ⟨b', off', rfl, -, hcc⟩ := HC'.out (by omega);obtain ⟨hc1, hc2⟩ := hcc j hlt2;have hd1 : wr.cell? ⟨b', off' + j * 2, none⟩ = some (.int .i64 (gp (gl N.ends k) j).1) := by rw [hbel2.cell (by exact a6 hc1)]; exact hc1
     have hd2 : wr.cell? ⟨b', off' + j * 2 + 1, none⟩ = some (.int .i64 (gp (gl N.ends k) j).2) := by rw [hbel2.cell (by exact a6 hc1)]; exact hc2
     have hcb := hblk2.cell;have hz1 : w.heap.size < wr.heap.size := hblk2.lt;have hz2 : b' < wr.heap.size := a6 hd1;have hz1' : w.heap.size < wr.heap.size + 1 := by omega
     have hz2' : b' < wr.heap.size + 1 := by omega
     have HBK := Lib.hid hblk2;have HB2 := Lib.hid hbel2;have hEO : pd N k j ↔ Cw N k j (gp (gl N.ends k) j).1 (gp (gl N.ends k) j).2 := Iff.rfl;obtain ⟨a, ha⟩ : ∃ a, a = (gp (gl N.ends k) j).1 := ⟨_, rfl⟩;obtain ⟨p, hp⟩ : ∃ p, p = (gp (gl N.ends k) j).2 := ⟨_, rfl⟩;rw [← ha, ← hp] at hEO;rw [← ha] at hd1;rw [← hp] at hd2;have HEO := Lib.hid hEO;clear hcc hc1 hc2 hEO ha hp;have hgone : ¬ pd N k j → bm N = false := fun h => cx fun h' => h ((h'.2.2.2.2 k hlt).2 j hlt2);have HGN := Lib.hid hgone;clear hgone;have CP := Lib.hid (fun (W : World) (hW : Below w.heap.size w W) => Et _ N a p W (HNR.out.below hW));cases e1 : un N a p
     ·have HT : Hid (bm N = false) := HGN.out fun h => by
       have := HEO.out.1 h;simp only [un, this.1, this.2.1] at e1;cases e1
      have E1 := Lib.hid (fun W hW => by have := CP.out W hW; rw [e1] at this; exact this);clear hbel2 hblk2 e1 CP
      go_wp2_with fail
      refine fy (by kernel_rfl) (by kernel_rfl) ?_
      repeat (go_big_quiet_step ((go_at_call 145; exact B6 (E1.out _ (Below.thenB (HB2.out.alloc HB2.out.size _) (BW.h _) (HB2.out.alloc HB2.out.size _).size)))))
      refine wpQuiet_nil ?_;rintro _ ⟨x, rfl⟩;have HX2 := Lib.hid (Below.thenB (HB2.out.alloc HB2.out.size _) x.h (HB2.out.alloc HB2.out.size _).size)
      go_wp2_with fail
      go_ret
      exact ⟨by rw [HT.out]; rfl, HX2.out⟩
     ·have E1 := Lib.hid (fun W hW => by have := CP.out W hW; rw [e1] at this; exact this);have e1' := e1;simp only [un, Bool.and_eq_true] at e1';obtain ⟨e2, e3⟩ := e1';obtain ⟨hp1, hp2⟩ := dz.1 e2;have hat : a.toNat < N.ends.length := by omega
      obtain ⟨u2, hu2, A3, c3, rfl, hn3, hm3, hc3⟩ := HC.out a.toNat hat;unfold maxLen at hm3;have hd3 : wr.cell? ⟨b, off + a.toNat, none⟩ = some (.slice A3 (gl N.ends a.toNat).length c3) := by rw [hbel2.cell (by exact a6 hu2)]; exact hu2
      have hz3 : b < wr.heap.size := a6 hd3;have hz3' : b < wr.heap.size + 1 := by omega
      obtain ⟨hq1, hq2⟩ := dz.1 e3;have hpt : p.toNat < (gl N.ends a.toNat).length := by omega
      obtain ⟨b3, off3, rfl, -, hc3'⟩ := hc3 (by omega);obtain ⟨hy1, hy2⟩ := hc3' p.toNat hpt;have hd4 : wr.cell? ⟨b3, off3 + p.toNat * 2, none⟩ = some (.int .i64 (gp (gl N.ends a.toNat) p.toNat).1) := by rw [hbel2.cell (by exact a6 hy1)]; exact hy1
      have hd5 : wr.cell? ⟨b3, off3 + p.toNat * 2 + 1, none⟩ = some (.int .i64 (gp (gl N.ends a.toNat) p.toNat).2) := by rw [hbel2.cell (by exact a6 hy1)]; exact hy2
      have hz4 : b3 < wr.heap.size := a6 hd4;have hz4' : b3 < wr.heap.size + 1 := by omega
      clear hc3 hc3' hy1 hy2 hbel2 hblk2 CP e1
      by_cases e4 : gp (gl N.ends a.toNat) p.toNat = ((k : Int), (j : Int))
      ·have HOK : Hid (pd N k j) := HEO.out.2 ⟨e2, e3, e4⟩;rw [e4] at hd4 hd5;clear e4 e2 e3
       go_wp2_with fail
       refine fy (by kernel_rfl) (by kernel_rfl) ?_
       repeat (go_big_quiet_step ((go_at_call 145; exact B6 (E1.out _ (Below.thenB (HB2.out.alloc HB2.out.size _) (BW.h _) (HB2.out.alloc HB2.out.size _).size)))))
       refine wpQuiet_nil ?_;rintro _ ⟨x, rfl⟩;have HX2 := Lib.hid (Below.thenB (HB2.out.alloc HB2.out.size _) x.h (HB2.out.alloc HB2.out.size _).size);have HBK2 := Lib.hid ((HBK.out.alloc _).below x.h)
       go_wp2_with fail
       go_roundw
       case rel =>
        refine ⟨j + 1, by omega, by go_num, fun i hi => ?_, HBK2.out, HX2.out⟩
        by_cases h1 : i = j
        ·subst h1; exact HOK.out
        ·exact HS2.out i (by omega)
       case measure => simp [intOf]; omega
      ·have HT : Hid (bm N = false) := HGN.out fun h => e4 (HEO.out.1 h).2.2;obtain ⟨x, y, hxy⟩ : ∃ x y, gp (gl N.ends a.toNat) p.toNat = (x, y) := ⟨_, _, rfl⟩;rw [hxy] at hd4 hd5 e4;clear hxy e2 e3
       by_cases e5 : x = (k : Int)
       ·have e6 : ¬ y = (j : Int) := fun h => e4 (by rw [e5, h]);rw [e5] at hd4;clear e4 e5
        go_wp2_with fail
        refine fy (by kernel_rfl) (by kernel_rfl) ?_
        repeat (go_big_quiet_step ((go_at_call 145; exact B6 (E1.out _ (Below.thenB (HB2.out.alloc HB2.out.size _) (BW.h _) (HB2.out.alloc HB2.out.size _).size)))))
        refine wpQuiet_nil ?_;rintro _ ⟨z, rfl⟩;have HX2 := Lib.hid (Below.thenB (HB2.out.alloc HB2.out.size _) z.h (HB2.out.alloc HB2.out.size _).size)
        go_wp2_with fail
        go_ret
        exact ⟨by rw [HT.out]; rfl, HX2.out⟩
       ·clear e4
        go_wp2_with fail
        refine fy (by kernel_rfl) (by kernel_rfl) ?_
        repeat (go_big_quiet_step ((go_at_call 145; exact B6 (E1.out _ (Below.thenB (HB2.out.alloc HB2.out.size _) (BW.h _) (HB2.out.alloc HB2.out.size _).size)))))
        refine wpQuiet_nil ?_;rintro _ ⟨z, rfl⟩;have HX2 := Lib.hid (Below.thenB (HB2.out.alloc HB2.out.size _) z.h (HB2.out.alloc HB2.out.size _).size)
        go_wp2_with fail
        go_ret
        exact ⟨by rw [HT.out]; rfl, HX2.out⟩
    ·go_wp2
     go_roundw
     case rel =>
      refine ⟨k + 1, by omega, by go_num, fun i hi => ?_, hblk2, hbel2⟩
      by_cases h1 : i = k
      ·subst h1; exact ⟨h6, fun i hi => HS2.out i (by omega)⟩
      ·exact HS.out i (by omega)
     case measure => simp [intOf]; omega
  ·have HT : Hid (bm N = true) := er.2 ⟨H1.out, by rw [← A6]; exact H2.out, H3.out, H5.out, fun j hj => HS.out j (by omega)⟩
   go_wp2
   go_ret
   exact ⟨by rw [HT.out]; rfl, hbel⟩
end
section
theorem Ot : ∀ {l m : List Int}, l.Pairwise (· < ·) → m.Pairwise (· < ·) → (∀ x, x ∈ l ↔ x ∈ m) → l = m
 | [], [], _, _, _ => rfl
 | [], y :: m, _, _, h => absurd ((h y).2 List.mem_cons_self) List.not_mem_nil
 | y :: l, [], _, _, h => absurd ((h y).1 List.mem_cons_self) List.not_mem_nil
 | y :: l, z :: m, h1, h2, h => by
  obtain ⟨a1, a2⟩ := List.pairwise_cons.1 h1;obtain ⟨b1, b2⟩ := List.pairwise_cons.1 h2
  have hyz : y = z := by
   have c1 := (h y).1 List.mem_cons_self;have c2 := (h z).2 List.mem_cons_self
   rcases List.mem_cons.1 c1 with c1 | c1
   ·exact c1
   ·rcases List.mem_cons.1 c2 with c2 | c2
    ·exact c2.symm
    ·have := a1 z c2; have := b1 y c1; omega
  subst hyz;refine congrArg _ (Ot a2 b2 fun x => ?_);constructor
  ·intro hx;have := a1 x hx
   rcases List.mem_cons.1 ((h x).1 (List.mem_cons_of_mem _ hx)) with c | c
   ·omega
   ·exact c
  ·intro hx;have := b1 x hx
   rcases List.mem_cons.1 ((h x).2 (List.mem_cons_of_mem _ hx)) with c | c
   ·omega
   ·exact c
end
section
def bin : Nat → Nat → Nat
 | _, 0 => 1
 | 0, _ + 1 => 0
 | n + 1, k + 1 => bin n k + bin n (k + 1)
theorem n6 (n : Nat) : bin n 0 = 1 := by cases n <;> rfl
theorem ou : ∀ {n k : Nat}, n < k → bin n k = 0
 | 0, k + 1, _ => rfl
 | n + 1, k + 1, h => by rw [bin, ou (n := n) (k := k) (by omega), ou (n := n) (k := k + 1) (by omega)]
theorem Vg {n i : Nat} (h : 0 < i) : bin (n + 1) i = bin n i + bin n (i - 1) := by
 obtain ⟨k, rfl⟩ : ∃ k, i = k + 1 := ⟨i - 1, by omega⟩;rw [bin, Nat.add_sub_cancel, Nat.add_comm]
theorem Hu : ∀ (n k : Nat), bin n k ≤ 2 ^ n
 | n, 0 => by rw [n6]; exact Nat.one_le_two_pow
 | 0, k + 1 => Nat.zero_le _
 | n + 1, k + 1 => by
  have h1 := Hu n k;have h2 := Hu n (k + 1);rw [bin, Nat.pow_succ]; omega
def sbs : Nat → Nat → Nat → Nat → List Int
 | _, _, 0, _ => []
 | 0, _, _ + 1, _ => []
 | d + 1, x, k + 1, r => if r < bin d k then (x : Int) :: sbs d (x + 1) k r else sbs d (x + 1) (k + 1) (r - bin d k)
theorem qt (d x r : Nat) : sbs d x 0 r = [] := by cases d <;> rfl
theorem sr : ∀ (d x k r : Nat), r < bin d k → (sbs d x k r).length = k ∧ (sbs d x k r).Pairwise (· < ·) ∧ ∀ y ∈ sbs d x k r, (x : Int) ≤ y ∧ y < ((x + d : Nat) : Int)
 | d, x, 0, r, _ => by rw [qt]; exact ⟨rfl, List.Pairwise.nil, fun y hy => absurd hy List.not_mem_nil⟩
 | 0, x, k + 1, r, h => absurd h (Nat.not_lt_zero _)
 | d + 1, x, k + 1, r, h => by
  rw [sbs];rw [bin] at h;split
  ·rename_i hr
   obtain ⟨h1, h2, h3⟩ := sr d (x + 1) k r hr;refine ⟨by rw [List.length_cons, h1], List.pairwise_cons.2 ⟨fun y hy => by have := h3 y hy; omega, h2⟩, fun y hy => ?_⟩
   rcases List.mem_cons.1 hy with rfl | hy
   ·omega
   ·have := h3 y hy; omega
  ·rename_i hr
   obtain ⟨h1, h2, h3⟩ := sr d (x + 1) (k + 1) (r - bin d k) (by omega);exact ⟨h1, h2, fun y hy => by have := h3 y hy; omega⟩
theorem vw : ∀ (d x : Nat) (S : List Int), S.Pairwise (· < ·) → (∀ y ∈ S, (x : Int) ≤ y ∧ y < ((x + d : Nat) : Int)) → ∃ r, r < bin d S.length ∧ sbs d x S.length r = S
 | d, x, [], _, _ => ⟨0, by rw [List.length_nil, n6]; omega, qt _ _ _⟩
 | 0, x, y :: S, _, h => by have := h y List.mem_cons_self; omega
 | d + 1, x, y :: S, hp, h => by
  obtain ⟨h1, h2⟩ := List.pairwise_cons.1 hp;have hy := h y List.mem_cons_self;rw [List.length_cons, bin]
  by_cases hyx : y = x
  ·subst hyx
   obtain ⟨r, hr, he⟩ := vw d (x + 1) S h2 fun z hz => by
    have := h1 z hz; have := h z (List.mem_cons_of_mem _ hz); omega
   refine ⟨r, by omega, ?_⟩;rw [sbs, if_pos hr, he]
  ·obtain ⟨r, hr, he⟩ := vw d (x + 1) (y :: S) hp fun z hz => by
    have := h z hz
    rcases List.mem_cons.1 hz with rfl | hz2
    ·omega
    ·have := h1 z hz2; omega
   rw [List.length_cons] at hr he;refine ⟨bin d S.length + r, by omega, ?_⟩;rw [sbs, if_neg (by omega), Nat.add_sub_cancel_left, he]
structure LeastS (good : List Int → Bool) (n k r : Nat) : Prop where
 lt : r < bin n k
 ok : good (sbs n 0 k r) = true
 first : ∀ r', r' < r → good (sbs n 0 k r') = false
 less : ∀ k' r', k' < k → r' < bin n k' → good (sbs n 0 k' r') = false
theorem LeastS.unique {good : List Int → Bool} {n k r k' r' : Nat} (h : LeastS good n k r) (h' : LeastS good n k' r') : k = k' ∧ r = r' := by
 have hk : k = k' := by
  rcases Nat.lt_trichotomy k k' with g | g | g
  ·have := h'.less k r g h.lt; rw [h.ok] at this; cases this
  ·exact g
  ·have := h.less k' r' g h'.lt; rw [h'.ok] at this; cases this
 subst hk;refine ⟨rfl, ?_⟩
 rcases Nat.lt_trichotomy r r' with g | g | g
 ·have := h'.first r g; rw [h.ok] at this; cases this
 ·exact g
 ·have := h.first r' g; rw [h'.ok] at this; cases this
theorem LeastS.len {good : List Int → Bool} {n k r : Nat} (h : LeastS good n k r) : (sbs n 0 k r).length = k := (sr n 0 k r h.lt).1
theorem LeastS.le {good : List Int → Bool} {n k r : Nat} (h : LeastS good n k r) {T : List Int} (hp : T.Pairwise (· < ·)) (hm : ∀ y ∈ T, 0 ≤ y ∧ y < (n : Int)) (hg : good T = true) : (sbs n 0 k r).length ≤ T.length := by
 rw [h.len];obtain ⟨r', hr, he⟩ := vw n 0 T hp fun y hy => by have := hm y hy; omega
 rcases Nat.lt_or_ge T.length k with g | g
 ·have := h.less _ r' g hr; rw [he, hg] at this; cases this
 ·exact g
end
section
def pas (m k t : Nat) : List Int := (List.range (k + 1)).map fun i => ((if t < i then bin (m + 1) i else bin m i : Nat) : Int)
theorem Cb (m k t : Nat) : (pas m k t).length = k + 1 := by simp [pas]
theorem Cc {m k t i : Nat} (h : i ≤ k) : gi (pas m k t) i = ((if t < i then bin (m + 1) i else bin m i : Nat) : Int) := by
 have h1 : i < (pas m k t).length := by rw [Cb]; omega
 rw [cf h1];simp [pas]
theorem Kf (k : Nat) : pas 0 k k = (List.replicate (k + 1) (0 : Int)).set 0 1 := by
 refine List.ext_getElem? fun i => ?_;simp only [pas, List.getElem?_map, List.getElem?_set, List.getElem?_replicate, List.length_replicate, List.getElem?_range]
 rcases i with _ | i
 ·simp [n6]
 ·by_cases h : i + 1 < k + 1
  ·rw [List.getElem?_range h, if_neg (by omega), if_pos h];have h2 : ¬ k < i + 1 := by omega
   simp [h2, bin]
  ·rw [List.getElem?_eq_none (by simp; omega), if_neg (by omega), if_neg h]; rfl
theorem Nc {m k t : Nat} (h0 : 0 < t) (ht : t ≤ k) : (pas m k t).set t (gi (pas m k t) t + gi (pas m k t) (t - 1)) = pas m k (t - 1) := by
 rw [Cc ht, Cc (by omega : t - 1 ≤ k), if_neg (by omega), if_neg (by omega)];refine List.ext_getElem? fun i => ?_;simp only [pas, List.getElem?_set, List.length_map, List.length_range]
 by_cases hi : t = i
 ·subst hi;rw [if_pos rfl, if_pos (by omega), List.getElem?_map, List.getElem?_range (by omega)];have h2 : t - 1 < t := by omega
  simp only [Option.map_some, if_pos h2, Vg h0];simp
 ·rw [if_neg hi, List.getElem?_map, List.getElem?_map]
  by_cases hk : i < k + 1
  ·rw [List.getElem?_range hk]
   by_cases h3 : t < i
   ·have h4 : t - 1 < i := by omega
    simp [h3, h4]
   ·have h4 : ¬ t - 1 < i := by omega
    simp [h3, h4]
  ·rw [List.getElem?_eq_none (by simp; omega)]; rfl
theorem Nd (m k : Nat) : pas m k 0 = pas (m + 1) k k := by
 refine List.map_congr_left fun i hi => ?_;have hi := List.mem_range.1 hi;rw [if_neg (by omega : ¬ k < i)]
 rcases i with _ | i
 ·simp [n6]
 ·rw [if_pos (Nat.succ_pos i)]
end
end Go.Proofs.YtolpiolnhgpjjaaGreat
