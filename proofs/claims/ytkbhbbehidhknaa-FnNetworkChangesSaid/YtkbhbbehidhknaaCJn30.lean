/- Parts of the proof, joined: Ppa, Prk. -/
import Derived.Test.YtkbhbbehidhknaaCPta
import Derived.Test.YtkbhbbehidhknaaCPh
import Derived.Test.YtkbhbbehidhknaaCJn10
import Derived.Deep.DeepCutAuto
import Derived.Maps.OwnOps
namespace Go.Proofs.Ytkbhbbehidhknaa
open Go.RowKit Go.Maps

/-- a function value that answers by keep, in every later world -/
structure KeepR (w : World) (g : FuncId) (caps : Array Value) (keep : Nat → Nat → Bool) (ess : List (List (Int × Int))) : Prop where
  enters : ∀ (args : Array Value) (W : World), (callFunc g args).run Try.prog W = .ok (.enter g args) W
  says : ∀ (W : World) (k i : Nat), Below w.heap.size w W → k < ess.length → i < dg ess k → Calls Try.prog g (#[.int .i64 (k : Int), .int .i64 (i : Int)] ++ caps) W (fun e w' => Below W.heap.size W w' ∧ e = .returned (.bool (keep k i)))
/-- what is kept is kept at both ends -/
def KSym (ess : List (List (Int × Int))) (keep : Nat → Nat → Bool) : Prop :=
  ∀ k j, k < ess.length → j < dg ess k → keep k j = true → ∃ q jj : Nat, pt ess k j = ((q : Int), (jj : Int)) ∧ q < ess.length ∧ jj < dg ess q ∧ keep q jj = true
theorem LowB.cell {B : Nat} {w w' : World} (h : LowB B w w') {b o : Nat} (hp : b < B) : w'.cell? ⟨b, o, none⟩ = w.cell? ⟨b, o, none⟩ := World.cell?_of_block (h.block b hp)
theorem LowB.weak {B B' : Nat} {w w' : World} (h : LowB B w w') (hB : B' ≤ B) : LowB B' w w' := ⟨h.os, h.tape, h.output, h.size, fun k hk => h.block k (by omega)⟩

set_option maxRecDepth 100000 in
set_option maxHeartbeats 8000000 in
theorem part_any {S S' : Nat → Prop} (u pv : Value) (N : Net) (g : FuncId) (caps : Array Value) (keep : Nat → Nat → Bool) (w : World) (h : NetR w S u N) (hpi : IntsR w S' pv (upTo N.ends.length)) (hkr : KeepR w g caps keep N.ends)
    (hs : Small N) (hin : N.inputs.length = N.ends.length) (hid : N.ids.length = 0 ∨ N.ids.length = N.ends.length) (hks : KSym N.ends keep) :
    Calls Try.prog 32 #[u, pv, .func (.func g) #[] caps] w (RetNt w ⟨partK N.ends keep, N.ids, N.inputs⟩) := by
  have hsl := hs.1
  have HSD := Lib.hid hs.2.1
  have HKR := Lib.hid hkr
  have HKS := Lib.hid hks
  have HID := Lib.hid hid
  have HIN := Lib.hid hin
  have hen := hkr.enters
  obtain ⟨Ap, cp, rfl, -, hpm, hpx⟩ := hpi
  rw [upTo_length] at hpx ⊢
  have HPX := Lib.hid hpx
  have HN := Lib.hid h
  obtain ⟨ve, vi, vn, rfl, he, hi, hn⟩ := h
  obtain ⟨A, c, rfl, -, hmc, hx⟩ := he
  obtain ⟨A1, c1, rfl, -, -, hyi⟩ := hi
  obtain ⟨A2, c2, rfl, -, -, hyn⟩ := hn
  unfold maxLen at hmc
  have HX := Lib.hid hx
  have HYI := Lib.hid hyi
  have HYN := Lib.hid hyn
  clear hx hyi hyn hpx hs hkr hks hid hin
  obtain ⟨wz, hwz⟩ : ∃ wz, wz = (((w.alloc (.cells #[.slice A N.ends.length c, .slice A1 N.ids.length c1, .slice A2 N.inputs.length c2] 27)).alloc (.cells #[.slice none 0 0, .slice none 0 0, .slice none 0 0] 27)).alloc (.cells #[.slice none 0 0, .slice none 0 0, .slice none 0 0] 27)) := ⟨_, rfl⟩
  have hzs : wz.heap.size = w.heap.size + 3 := by rw [hwz]; simp
  have hbz : Below w.heap.size w wz := by rw [hwz]; exact ((((Below.refl _ _).alloc (by simp) _).alloc (by simp) _).alloc (by simp; omega) _)
  have HK : Hid (Blk wz w.heap.size 27 #[.slice A N.ends.length c, .slice A1 N.ids.length c1, .slice A2 N.inputs.length c2]) := Lib.hid (by
    rw [hwz]
    have := (((Blk.new w 27 #[.slice A N.ends.length c, .slice A1 N.ids.length c1, .slice A2 N.inputs.length c2]).alloc (.cells #[.slice none 0 0, .slice none 0 0, .slice none 0 0] 27)).alloc (.cells #[.slice none 0 0, .slice none 0 0, .slice none 0 0] 27))
    simpa using this)
  have HE1 : Hid (Blk wz (w.heap.size + 1) 27 #[.slice none 0 0, .slice none 0 0, .slice none 0 0]) := Lib.hid (by
    rw [hwz]
    have := ((Blk.new (w.alloc (.cells #[.slice A N.ends.length c, .slice A1 N.ids.length c1, .slice A2 N.inputs.length c2] 27)) 27 #[.slice none 0 0, .slice none 0 0, .slice none 0 0]).alloc (.cells #[.slice none 0 0, .slice none 0 0, .slice none 0 0] 27))
    simpa using this)
  have HR : Hid (Blk wz (w.heap.size + 2) 27 #[.slice none 0 0, .slice none 0 0, .slice none 0 0]) := Lib.hid (by
    rw [hwz]
    have := (Blk.new ((w.alloc (.cells #[.slice A N.ends.length c, .slice A1 N.ids.length c1, .slice A2 N.inputs.length c2] 27)).alloc (.cells #[.slice none 0 0, .slice none 0 0, .slice none 0 0] 27)) 27 #[.slice none 0 0, .slice none 0 0, .slice none 0 0])
    simpa using this)
  have HB0 := Lib.hid hbz
  have HZ := Lib.hid hwz
  clear hwz hbz
  go_enter Try.func32, Try.ntmps32
  go_upto_region 2 with fail
  rw [← HZ.out]
  clear HZ
  have hmm := fun W => run_makeMap (P := Try.prog) 78 W
  go_upto_region 3 with fail
  clear hmm
  have HB1 : Hid (Below w.heap.size w (wz.alloc (.map #[] 0))) := Lib.hid (HB0.out.alloc (by omega) _)
  have HK1 := Lib.hid (HK.out.alloc (.map #[] 0))
  have HE11 := Lib.hid (HE1.out.alloc (.map #[] 0))
  have HR1 := Lib.hid (HR.out.alloc (.map #[] 0))
  have HM0 : Hid (OwnM (wz.alloc (.map #[] 0)) 35 (w.heap.size + 3) 0 (fun _ => none)) := Lib.hid (by
    have := OwnM.made wz 35
    rwa [hzs] at this)
  have hz0 : (wz.alloc (.map #[] 0)).heap.size = w.heap.size + 4 := by rw [World.size_alloc, hzs]
  clear HK HE1 HR HB0
  generalize wz.alloc (.map #[] 0) = w0 at *
  obtain ⟨gx, hgx⟩ : ∃ gx, gx = w.heap.size + 1 + 1 := ⟨_, rfl⟩
  have hgx1 : w.heap.size + 2 ≤ gx := by omega
  have hgx2 : gx ≤ w.heap.size + 2 := by omega
  have HR2 : Hid (Blk w0 gx 27 #[.slice none 0 0, .slice none 0 0, .slice none 0 0]) := Lib.hid (by rw [hgx]; exact HR1.out)
  rw [← hgx]
  clear hgx HR1
  go_wp2_with fail
  go_loopw [21] (fun x21 wr => ∃ (k s : Nat) (f : Value → Option Value), k ≤ N.ends.length ∧ x21 = .int .i64 k ∧ PlK N.ends keep f k 0 ∧ s ≤ k * 262144 ∧ OwnM wr 35 (w.heap.size + 3) s f ∧ LowB (w.heap.size + 3) w0 wr)
    (fun x21 _ => N.ends.length - (intOf x21).toNat)
  case atStart => exact ⟨0, 0, _, Nat.zero_le _, rfl, PlK.start, Nat.le_refl _, HM0.out, ⟨rfl, rfl, rfl, Nat.le_refl _, fun _ _ => rfl⟩⟩
  case round =>
    obtain ⟨k, s, f, hk, rfl, hpl, hsk, hom, hlow⟩ := hrel
    obtain ⟨wr2, rfl⟩ : ∃ wr2, wr2 = wr := ⟨_, rfl⟩
    have HPL := Lib.hid hpl
    have HOM := Lib.hid hom
    have HLW := Lib.hid hlow
    clear HM0 hpl hom hlow
    have HBW : Hid (Below w.heap.size w wr2) := Lib.hid (belowLow HB1.out HLW.out (by omega))
    by_cases hlt : k < N.ends.length
    · obtain ⟨bp, op, rfl, -, hpc⟩ := HPX.out (by omega)
      have cp1 := hpc k hlt
      rw [upTo_get hlt] at cp1
      have cpk : wr2.cell? ⟨bp, op + k, none⟩ = some (.int .i64 (k : Int)) := (HBW.out.cell (p := ⟨bp, op + k, none⟩) (lt_of_cell cp1)).trans cp1
      obtain ⟨b, off, rfl, -, hrow⟩ := HX.out (by omega)
      obtain ⟨uk, huk, hurk⟩ := hrow k hlt
      obtain ⟨Rk, rck, rfl, -, hrmk, -⟩ := hurk
      have ck : wr2.cell? ⟨b, off + k, none⟩ = some (.slice Rk (gl N.ends k).length rck) := (HBW.out.cell (p := ⟨b, off + k, none⟩) (lt_of_cell huk)).trans huk
      have cN := Blk.cell (w := wr2) ((HLW.out.block w.heap.size (by omega)).trans HK1.out)
      have jv1 : (0 : Int) ≤ (k : Int) := by omega
      have jv2 : (k : Int) < (N.ends.length : Int) := by omega
      have hdk := HSD.out k hlt
      obtain ⟨dk, hdk'⟩ : ∃ dk, dk = (gl N.ends k).length := ⟨_, rfl⟩
      rw [← hdk'] at ck hdk
      have HDK := Lib.hid hdk'
      clear huk hrow cp1 hpc hdk'
      go_wp2_with fail
      clear cpk ck cN
      go_loopw [32, 11] (fun x32 x11 wi => ∃ (j s : Nat) (f : Value → Option Value), j ≤ dk ∧ x32 = .int .i64 j ∧ x11 = .int .i64 (placeK keep k j : Nat) ∧ PlK N.ends keep f k j ∧ s ≤ k * 262144 + j ∧ OwnM wi 35 (w.heap.size + 3) s f ∧ LowB (w.heap.size + 3) w0 wi)
        (fun x32 _ _ => dk - (intOf x32).toNat)
      case atStart => exact ⟨0, s, f, Nat.zero_le _, rfl, by rw [placeK_zero]; rfl, HPL.out, Nat.le_trans hsk (Nat.le_add_right _ _), HOM.out, HLW.out⟩
      case round =>
        clear HPL HOM HLW HBW hsk
        obtain ⟨j, s, f, hj, rfl, rfl, hpl, hsk, hom, hlow⟩ := hrel
        obtain ⟨wi2, rfl⟩ : ∃ wi2, wi2 = wr := ⟨_, rfl⟩
        have HPL := Lib.hid hpl
        have HOM := Lib.hid hom
        have HLW := Lib.hid hlow
        clear hpl hom hlow
        have HBW : Hid (Below w.heap.size w wi2) := Lib.hid (belowLow HB1.out HLW.out (by omega))
        by_cases hjl : j < dk
        · have hjd : j < dg N.ends k := by unfold dg; rw [← HDK.out]; exact hjl
          have jw1 : (0 : Int) ≤ (j : Int) := by omega
          have jw2 : (j : Int) < (dk : Int) := by omega
          have hpj := placeK_le keep k j
          have hwz := HLW.out.size
          have HPY : Hid (keep k j = true → placeK keep k (j + 1) = placeK keep k j + 1) := Lib.hid placeK_yes
          have HPN : Hid (keep k j = false → placeK keep k (j + 1) = placeK keep k j) := Lib.hid placeK_no
          obtain ⟨q, hq⟩ : ∃ q, q = keep k j := ⟨_, rfl⟩
          have HQ := Lib.hid hq
          clear hq
          cases q with
          | true =>
            go_wp2_with fail
            refine (HKR.out.says _ k j HBW.out hlt hjd).mono ?_
            rintro e w1 ⟨hb1, rfl⟩
            rw [← HQ.out]
            have HOM1 := Lib.hid (HOM.out.below hb1)
            have HLW1 : Hid (LowB (w.heap.size + 3) w0 w1) := Lib.hid (HLW.out.trans (LowB.of_below hb1 (by omega)))
            have hz1 := hb1.size
            clear hb1
            obtain ⟨kl, hkl⟩ := keyOf_port k j (by omega) (by omega)
            have HKL := Lib.hid hkl
            clear hkl
            go_wp2_with (at_mapUpdate; refine wpList_put_m _ rfl (.tmp 39) (.tmp 42) (.tmp 45) 78 rfl end_keyed under_map rfl HOM1.out (by unfold maxLen; omega) (endV k j) (endV k (placeK keep k j)) rfl rfl HKL.out ?_; intro w2 hg2 hput)
            have HOM2 := Lib.hid (hput (putF f (endV k j) (endV k (placeK keep k j))) (putF_at ..) (fun key' kl' _ hne => putF_far _ hne))
            have HLW2 := Lib.hid (HLW1.out.trans (LowB.of_grown hg2 (by omega) (fun q hq => by cases hq; exact Nat.le_refl _)))
            have hsz : (if (f (endV k j)).isSome = true then s else s + 1) ≤ s + 1 := by split <;> omega
            clear hg2 hput
            go_roundw
            case rel => exact ⟨j + 1, _, _, by omega, by go_num, by rw [HPY.out HQ.out.symm]; go_num, HPL.out.yes, by omega, HOM2.out, HLW2.out⟩
            case measure => simp [intOf]; omega
          | false =>
            go_wp2_with fail
            refine (HKR.out.says _ k j HBW.out hlt hjd).mono ?_
            rintro e w1 ⟨hb1, rfl⟩
            rw [← HQ.out]
            have HOM1 := Lib.hid (HOM.out.below hb1)
            have HLW1 : Hid (LowB (w.heap.size + 3) w0 w1) := Lib.hid (HLW.out.trans (LowB.of_below hb1 (by omega)))
            clear hb1
            go_wp2_with fail
            go_roundw
            case rel => exact ⟨j + 1, s, f, by omega, by go_num, by rw [HPN.out HQ.out.symm], HPL.out.no HQ.out.symm, by omega, HOM1.out, HLW1.out⟩
            case measure => simp [intOf]; omega
        · obtain rfl : j = dk := by omega
          have hjx : ¬ ((j : Int) < (j : Int)) := by omega
          have HPR := Lib.hid (HPL.out.row (by unfold dg; rw [← HDK.out]; exact Nat.le_refl _))
          clear hj hjl
          go_wp2_with fail
          go_roundw
          case rel => exact ⟨k + 1, s, f, by omega, by go_num, HPR.out, by omega, HOM.out, HLW.out⟩
          case measure => simp [intOf]; omega
    · obtain rfl : k = N.ends.length := by omega
      have hjx : ¬ ((N.ends.length : Int) < (N.ends.length : Int)) := by omega
      have hwz := HLW.out.size
      have HPS : Hid (PS w0 gx (w.heap.size + 3) (w.heap.size + 4) (.slice none 0 0) (.slice none 0 0) (.slice none 0 0) ⟨[], [], []⟩ s f wr2) := Lib.hid (PS.start ((HLW.out.block _ (by omega)).trans HR2.out) HOM.out (HLW.out.weak (by omega)) (by omega) (by omega) (by omega))
      clear HOM HLW HBW hk hlt hsk
      go_wp2_with fail
      go_loopw [52] (fun x52 wr => ∃ (k : Nat) (a0 a1 a2 : Option Addr) (d0 d1 d2 : Nat) (ids ins : List Int), k ≤ N.ends.length ∧ x52 = .int .i64 k ∧ ids = N.ids.take k ∧ ins = N.inputs.take k ∧ PS w0 gx (w.heap.size + 3) (w.heap.size + 4) (.slice a0 k d0) (.slice a1 ids.length d1) (.slice a2 ins.length d2) ⟨upK N.ends keep k, ids, ins⟩ s f wr)
        (fun x52 _ => N.ends.length - (intOf x52).toNat)
      case atStart => exact ⟨0, none, none, none, 0, 0, 0, [], [], Nat.zero_le _, rfl, rfl, rfl, HPS.out⟩
      case round =>
        clear HPS
        obtain ⟨k, a0, a1, a2, d0, d1, d2, ids, ins, hk, rfl, hids, hins, hps⟩ := hrel
        obtain ⟨wr3, rfl⟩ : ∃ wr3, wr3 = wr := ⟨_, rfl⟩
        have HIDS := Lib.hid hids
        have HINS := Lib.hid hins
        have HPS := Lib.hid hps
        clear hps hids hins
        have HBW : Hid (Below w.heap.size w wr3) := Lib.hid (belowLow HB1.out HPS.out.low (by omega))
        have hwz3 := HPS.out.sz
        by_cases hlt : k < N.ends.length
        · obtain ⟨bp, op, rfl, -, hpc⟩ := HPX.out (by omega)
          have cp1 := hpc k hlt
          rw [upTo_get hlt] at cp1
          have cpk : wr3.cell? ⟨bp, op + k, none⟩ = some (.int .i64 (k : Int)) := (HBW.out.cell (p := ⟨bp, op + k, none⟩) (lt_of_cell cp1)).trans cp1
          obtain ⟨b, off, rfl, -, hrow⟩ := HX.out (by omega)
          obtain ⟨uk, huk, hurk⟩ := hrow k hlt
          obtain ⟨Rk, rck, rfl, -, hrmk, hrrk⟩ := hurk
          have ck : wr3.cell? ⟨b, off + k, none⟩ = some (.slice Rk (gl N.ends k).length rck) := (HBW.out.cell (p := ⟨b, off + k, none⟩) (lt_of_cell huk)).trans huk
          have HRR := Lib.hid hrrk
          have HNB := Lib.hid ((HPS.out.low.block w.heap.size (by omega)).trans HK1.out)
          have cN := Blk.cell (w := wr3) HNB.out
          have jv1 : (0 : Int) ≤ (k : Int) := by omega
          have jv2 : (k : Int) < (N.ends.length : Int) := by omega
          have hdk := HSD.out k hlt
          obtain ⟨dk, hdk'⟩ : ∃ dk, dk = (gl N.ends k).length := ⟨_, rfl⟩
          rw [← hdk'] at ck hdk
          have HDK := Lib.hid hdk'
          clear huk hrow cp1 hpc hdk' hrrk
          go_wp2_with fail
          clear cpk ck cN
          go_loopw [62, 15] (fun x62 x15 wi => ∃ (j : Nat) (Ao : Option Addr) (co : Nat) (xs : List (Int × Int)), j ≤ dk ∧ x62 = .int .i64 j ∧ x15 = .slice Ao xs.length co ∧ xs = rowK N.ends keep k j ∧ OwnE wi wr3.heap.size (.slice Ao xs.length co) xs ∧ Below wr3.heap.size wr3 wi)
            (fun x62 _ _ => dk - (intOf x62).toNat)
          case atStart => exact ⟨0, none, 0, [], Nat.zero_le _, rfl, rfl, rfl, OwnE.nil, Below.refl _ _⟩
          case round =>
            obtain ⟨j, Ao, co, xs, hj, rfl, rfl, hxs, hown, hbel⟩ := hrel
            obtain ⟨wi2, rfl⟩ : ∃ wi2, wi2 = wr := ⟨_, rfl⟩
            have HXS := Lib.hid hxs
            have HOW := Lib.hid hown
            have HBE := Lib.hid hbel
            have hxl : xs.length ≤ j := by rw [hxs]; exact rowK_len ..
            clear hxs hown hbel
            have HBV : Hid (Below w.heap.size w wi2) := Lib.hid (HBW.out.trans (HBE.out.mono HBW.out.size))
            have hwi := HBE.out.size
            by_cases hjl : j < dk
            · have hjd : j < dg N.ends k := by unfold dg; rw [← HDK.out]; exact hjl
              obtain ⟨e1, e2, hpt⟩ : ∃ e1 e2, pt N.ends k j = (e1, e2) := ⟨_, _, rfl⟩
              obtain ⟨bq, oq, rfl, -, hqc⟩ := HRR.out (by rw [← HDK.out]; omega)
              obtain ⟨p1, p2⟩ := hqc j (by rw [← HDK.out]; exact hjl)
              have hpt' := hpt
              unfold pt at hpt'
              rw [hpt'] at p1 p2
              have D1 : wi2.cell? ⟨bq, oq + j * 2, none⟩ = some (.int .i64 e1) := (HBV.out.cell (p := ⟨bq, oq + j * 2, none⟩) (lt_of_cell p1)).trans p1
              have D2 : wi2.cell? ⟨bq, oq + j * 2 + 1, none⟩ = some (.int .i64 e2) := (HBV.out.cell (p := ⟨bq, oq + j * 2 + 1, none⟩) (lt_of_cell p2)).trans p2
              have HPT := Lib.hid hpt
              have jw1 : (0 : Int) ≤ (j : Int) := by omega
              have jw2 : (j : Int) < (dk : Int) := by omega
              obtain ⟨q, hq⟩ : ∃ q, q = keep k j := ⟨_, rfl⟩
              have HQ := Lib.hid hq
              clear hq hqc p1 p2 hpt' hpt
              go_upto_region 22 with fail
              have HBA : Hid (Below wi2.heap.size wi2 (wi2.alloc (.cells #[.int .i64 e1, .int .i64 e2] 35))) := Lib.hid ((Below.refl _ _).alloc (Nat.le_refl _) _)
              have HKE := Lib.hid (Blk.new wi2 35 #[.int .i64 e1, .int .i64 e2])
              clear D1 D2
              cases q with
              | true =>
                obtain ⟨q, jj, hpt, hqb, hjj, hkq⟩ := HKS.out k j hlt hjd HQ.out.symm
                rw [HPT.out] at hpt
                simp only [Prod.mk.injEq] at hpt
                obtain ⟨rfl, rfl⟩ := hpt
                have hjj2 := HSD.out q hqb
                have hjj3 : jj ≤ 262144 := by unfold dg at hjj; omega
                go_wp2_with fail
                refine (HKR.out.says _ k j (HBV.out.trans (HBA.out.mono HBV.out.size)) hlt hjd).mono ?_
                rintro e w1 ⟨hb1, rfl⟩
                rw [← HQ.out]
                have HB9 := Lib.hid (Below.then_ HBA.out hb1)
                have HKE1 := Lib.hid (HKE.out.below hb1)
                have HO1 := Lib.hid (HOW.out.below HB9.out)
                have HMP := Lib.hid (HPS.out.mp.below (HBE.out.trans (HB9.out.mono hwi)))
                have HLK : Hid ((f (endV q jj)).getD (endV 0 0) = endV q (placeK keep q jj)) := Lib.hid (by rw [HPL.out q jj (.inl hqb) hjj hkq]; rfl)
                obtain ⟨kl, hkl⟩ := keyOf_port q jj (by omega) (by omega)
                have HKL := Lib.hid hkl
                have hz1 := hb1.size
                have hz9 := HB9.out.size
                have HRY : Hid (rowK N.ends keep k (j + 1) = xs ++ [((q : Int), (placeK keep q jj : Int))]) := Lib.hid (by rw [rowK_yes HQ.out.symm, HXS.out, HPT.out]; simp [movK])
                obtain ⟨pj, hpj⟩ : ∃ pj, pj = placeK keep q jj := ⟨_, rfl⟩
                rw [← hpj] at HLK HRY
                have ce := HKE1.out.cell
                clear hb1 hkl hpj
                go_upto_region 24 with (first | (at_lookup; refine wpList_look_m _ rfl (.tmp 72) (.tmp 73) 78 rfl end_keyed under_map (zero_end _) rfl HMP.out (endV q jj) rfl HKL.out (r := .agg #[.int .i64 (q : Int), .int .i64 (pj : Int)]) HLK.out ?_) | (at_builtin; refine wpList_append_ends (S := fun _ => True) _ rfl (.tmp 71) (.tmp 75) rfl wr3.heap.size (.slice Ao xs.length co) xs rfl (HO1.out.below ((Below.refl _ _).alloc (Nat.le_refl _) _)) (.slice (some ⟨w1.heap.size, 0, none⟩) 1 1) [((q : Int), (pj : Int))] rfl (EndsR.one (Blk.new _ _ _)) (by simp; omega) (by simp; omega) ?_; intro A8 c8 w8 ho8 hg8 hl8))
                have HO8 := Lib.hid ho8
                have HB8 := Lib.hid ((HBE.out.trans ((HB9.out.alloc (Nat.le_trans (Nat.le_refl _) hz9) _).mono hwi)).grown hg8 (by simp; omega) (fun q hq => (HO1.out.lt q hq).1))
                clear ho8 hg8 hl8 ce
                go_wp2_with fail
                go_roundw
                case rel => exact ⟨j + 1, A8, c8, xs ++ [((q : Int), (pj : Int))], by omega, by go_num, by simp, by rw [HRY.out], by rw [List.length_append]; exact HO8.out, HB8.out⟩
                case measure => simp [intOf]; omega
              | false =>
                go_wp2_with fail
                refine (HKR.out.says _ k j (HBV.out.trans (HBA.out.mono HBV.out.size)) hlt hjd).mono ?_
                rintro e w1 ⟨hb1, rfl⟩
                rw [← HQ.out]
                have HB9 := Lib.hid (Below.then_ HBA.out hb1)
                have HO1 := Lib.hid (HOW.out.below HB9.out)
                have HRY : Hid (xs = rowK N.ends keep k (j + 1)) := Lib.hid (by rw [rowK_no HQ.out.symm, HXS.out])
                have HB8 := Lib.hid (HBE.out.trans (HB9.out.mono hwi))
                clear hb1
                go_wp2_with fail
                go_roundw
                case rel => exact ⟨j + 1, Ao, co, xs, by omega, by go_num, rfl, HRY.out, HO1.out, HB8.out⟩
                case measure => simp [intOf]; omega
            · obtain rfl : j = dk := by omega
              have hjx : ¬ ((j : Int) < (j : Int)) := by omega
              have HES : Hid (upK N.ends keep (k + 1) = upK N.ends keep k ++ [xs]) := Lib.hid (by rw [upK_succ, ← rowK_done, HXS.out]; unfold dg; rw [← HDK.out])
              clear hj hjl
              obtain ⟨⟨us, hr0, hiu, hdu⟩, -⟩ := HPS.out.nb.parts
              have HUS := Lib.hid (fun i hi => (hiu i hi).lt)
              have hal : Below wr3.heap.size wr3 (wi2.alloc (.cells #[.slice Ao xs.length co] 33)) := HBE.out.alloc hwi _
              have HPS1 := Lib.hid (HPS.out.below hal)
              have HR0 := Lib.hid (ownsRow_keepB hr0 (fun b _ hl => hal.block b hl))
              have HIU := Lib.hid (fun i hi => (hiu i hi).below hal)
              have HDU := Lib.hid hdu
              have HRU := Lib.hid (by simpa only [upK_len] using HR0.out : (wi2.alloc (.cells #[.slice Ao xs.length co] 33)).ownsRow (w.heap.size + 4) 33 1 (.slice a0 k d0) k ((List.range k).map us))
              have HOX := Lib.hid (HOW.out.below ((Below.refl wi2.heap.size wi2).alloc (Nat.le_refl _) (.cells #[.slice Ao xs.length co] 33)))
              have hgl := (HPS.out.nb.bx).lt
              have cx := (HPS.out.nb.bx.below HBE.out).cell
              clear hr0 hiu hdu hal
              go_upto_region 26 with (at_builtin; refine wpList_append_slice _ rfl (.tmp 79) (.tmp 81) rfl (w.heap.size + 4) (.slice a0 k d0) k ((List.range k).map us) rfl HRU.out wi2.heap.size Ao xs.length co rfl (Blk.new _ _ _) (by omega) (by simp; omega) ?_; intro A8 c8 w8 hr8 hg8 hl8; have hx8 : Blk w8 gx 27 _ := ((KeptBut.of_grown hg8 (rowType HRU.out)) gx _ _ _ HPS1.out.nb.bx (by decide)).trans HPS1.out.nb.bx; have fx8 := hx8.free; have cx8 := hx8.cell)
              have HP2 := Lib.hid (PS.pushX HPS1.out (upK_len ..) HR0.out HIU.out HDU.out HOX.out hwz3 (fun i hi g hg => (HUS.out i hi g hg).2) hr8 hg8)
              have hz8 := hg8.size
              clear hr8 hg8 hl8 cx fx8 cx8 hx8 HR0 HRU HIU HDU HOX HUS HPS1
              generalize w8.setCell ⟨gx, 0, none⟩ (.slice A8 (k + 1) c8) = wA at *
              have HP3 : Hid (PS w0 gx (w.heap.size + 3) (w.heap.size + 4) (.slice A8 (k + 1) c8) (.slice a1 ids.length d1) (.slice a2 ins.length d2) ⟨upK N.ends keep (k + 1), ids, ins⟩ s f wA) := Lib.hid (by rw [HES.out]; exact HP2.out)
              clear HP2 HES
              have HBA : Hid (Below w.heap.size w wA) := Lib.hid (belowLow HB1.out HP3.out.low (by omega))
              have hinl : ins.length ≤ 262144 := by rw [HINS.out]; have := HIN.out; simp; omega
              have hidl : ids.length ≤ 262144 := by rw [HIDS.out]; rcases HID.out with h | h <;> (simp; omega)
              obtain ⟨x1, hx⟩ : ∃ x, x = gi N.inputs k := ⟨_, rfl⟩
              have hkin : k < N.inputs.length := by have := HIN.out; omega
              have HIS1 : Hid (ins ++ [x1] = N.inputs.take (k + 1)) := Lib.hid (by rw [take_gi hkin, ← HINS.out, hx])
              obtain ⟨bz, oz, rfl, -, hzc⟩ := HYN.out (by omega)
              have z1 := hzc k hkin
              rw [← hx] at z1
              have hbz := lt_of_cell z1
              have HBA : Hid (Below w.heap.size w wA) := Lib.hid (belowLow HB1.out HP3.out.low (by omega))
              have zk : wA.cell? ⟨bz, oz + k, none⟩ = some (.int .i64 x1) := (HBA.out.cell (p := ⟨bz, oz + k, none⟩) hbz).trans z1
              have HNB2 := Lib.hid ((HP3.out.low.block w.heap.size (by omega)).trans HK1.out)
              have kins : (k : Int) < (N.inputs.length : Int) := by omega
              clear hzc z1 hx
              have hszA := HP3.out.sz
              have hS0 : wA.drew.cell? ⟨gx, 2, none⟩ = some (.slice a2 ins.length d2) ∧ wA.drew.cell? ⟨w.heap.size, 2, none⟩ = some (.slice (some ⟨bz, oz, none⟩) N.inputs.length c2) ∧ wA.drew.cell? ⟨bz, oz + k, none⟩ = some (.int .i64 x1) := ⟨HP3.out.nb.bx.cell 2, Blk.cell (w := wA) HNB2.out 2, zk⟩
              have HPE := Lib.hid ((HP3.out.below ((Below.refl _ _).drew)).below ((Below.refl wA.drew.heap.size wA.drew).alloc (Nat.le_refl _) (.cells #[.int .i64 x1] 3)))
              have HOL := Lib.hid HPE.out.nb.parts
              have hla : LowB (gx + 1) wA.drew (wA.drew.alloc (.cells #[.int .i64 x1] 3)) := LowB.of_below ((Below.refl wA.drew.heap.size wA.drew).alloc (Nat.le_refl _) _) (by simp; omega)
              have hS1 : (wA.drew.alloc (.cells #[.int .i64 x1] 3)).cell? ⟨gx, 2, none⟩ = some (.slice a2 ins.length d2) ∧ (wA.drew.alloc (.cells #[.int .i64 x1] 3)).cell? ⟨w.heap.size, 2, none⟩ = some (.slice (some ⟨bz, oz, none⟩) N.inputs.length c2) ∧ (wA.drew.alloc (.cells #[.int .i64 x1] 3)).cell? ⟨bz, oz + k, none⟩ = some (.int .i64 x1) :=
                ⟨(hla.cell (by omega)).trans hS0.1, (hla.cell (by omega)).trans hS0.2.1, (hla.cell (by omega)).trans hS0.2.2⟩
              have HS1 := Lib.hid hS1
              clear zk hla
              refine wp_region_any (by kernel_rfl) ?_
              try (change wpAny _ _ _ _ _ _ _ (World.drew _))
              simp only [List.size_toArray, List.length_cons, List.length_nil, Array.replicate, List.replicate]
              refine wpAny_take (i := 0) (oi := _) (v := ?_) rfl (by kernel_rfl) (by kernel_rfl) (by kernel_rfl) (fun _ _ _ h => h) (Or.inl ⟨by rfl, ?_⟩) ?_
              case refine_2 => intro w0; go_simp; with_reducible rfl
              try simp only [Act.put, List.getElem_toArray, List.getElem_cons_zero, List.getElem_cons_succ, List.setIfInBounds_toArray, List.set_cons_zero, List.set_cons_succ]
              refine wpAny_take (i := 2) (oi := _) (v := ?_) rfl (by kernel_rfl) (by kernel_rfl) (by kernel_rfl) (fun _ _ _ h => h) (Or.inl ⟨by rfl, ?_⟩) ?_
              case refine_2 => intro w0; go_simp; with_reducible rfl
              try simp only [Act.put, List.getElem_toArray, List.getElem_cons_zero, List.getElem_cons_succ, List.setIfInBounds_toArray, List.set_cons_zero, List.set_cons_succ]
              refine wpAny_take (i := 4) (oi := _) (v := ?_) rfl (by kernel_rfl) (by kernel_rfl) (by kernel_rfl) (fun _ _ _ h => h) (Or.inl ⟨by rfl, ?_⟩) ?_
              case refine_2 => intro w0; go_simp; with_reducible rfl
              try simp only [Act.put, List.getElem_toArray, List.getElem_cons_zero, List.getElem_cons_succ, List.setIfInBounds_toArray, List.set_cons_zero, List.set_cons_succ]
              refine wpAny_of_P (S := fun W => W.cell? ⟨gx, 2, none⟩ = some (.slice a2 ins.length d2) ∧ W.cell? ⟨w.heap.size, 2, none⟩ = some (.slice (some ⟨bz, oz, none⟩) N.inputs.length c2) ∧ W.cell? ⟨bz, oz + k, none⟩ = some (.int .i64 x1)) (n1 := 9) _ _ _ _ ?_
              refine wpAnyP_take (i := 1) (oi := _) (v := ?_) rfl (by kernel_rfl) (by kernel_rfl) (by kernel_rfl) (by omega) (by kernel_rfl) (fun _ _ _ h => h) (Or.inl ⟨by rfl, ?_⟩) (hS0) ?_
              case refine_2 => intro w0 hS0; obtain ⟨h0, h1, h2⟩ := hS0; go_simp; try with_reducible rfl
              try simp only [Act.put, List.getElem_toArray, List.getElem_cons_zero, List.getElem_cons_succ, List.setIfInBounds_toArray, List.set_cons_zero, List.set_cons_succ]
              refine wpAnyP_take (i := 3) (oi := _) (v := ?_) rfl (by kernel_rfl) (by kernel_rfl) (by kernel_rfl) (by omega) (by kernel_rfl) (fun _ _ _ h => h) (Or.inl ⟨by rfl, ?_⟩) (hS0) ?_
              case refine_2 => intro w0 hS0; obtain ⟨h0, h1, h2⟩ := hS0; go_simp; try with_reducible rfl
              try simp only [Act.put, List.getElem_toArray, List.getElem_cons_zero, List.getElem_cons_succ, List.setIfInBounds_toArray, List.set_cons_zero, List.set_cons_succ]
              refine wpAnyP_take (i := 5) (oi := _) (v := ?_) rfl (by kernel_rfl) (by kernel_rfl) (by kernel_rfl) (by omega) (by kernel_rfl) (fun _ _ _ h => h) (Or.inl ⟨by rfl, ?_⟩) (hS0) ?_
              case refine_2 => intro w0 hS0; obtain ⟨h0, h1, h2⟩ := hS0; go_simp; try with_reducible rfl
              try simp only [Act.put, List.getElem_toArray, List.getElem_cons_zero, List.getElem_cons_succ, List.setIfInBounds_toArray, List.set_cons_zero, List.set_cons_succ]
              refine wpAnyP_take (i := 6) (oi := _) (v := ?_) rfl (by kernel_rfl) (by kernel_rfl) (by kernel_rfl) (by omega) (by kernel_rfl) (fun _ _ _ h => h) (Or.inl ⟨by rfl, ?_⟩) (hS0) ?_
              case refine_2 => intro w0 hS0; obtain ⟨h0, h1, h2⟩ := hS0; go_simp; try with_reducible rfl
              try simp only [Act.put, List.getElem_toArray, List.getElem_cons_zero, List.getElem_cons_succ, List.setIfInBounds_toArray, List.set_cons_zero, List.set_cons_succ]
              refine wpAnyP_ready (rs := [7]) (by kernel_rfl) (by simp) (by kernel_rfl) (AllReadyP.cons (o := _) rfl (fun K hK => ?_) AllReadyP.nil)
              go_simp
              refine hK.out _ _ (hS1) (fun _ => ?_)
              clear hK K
              try simp only [Act.put, List.getElem_toArray, List.getElem_cons_zero, List.getElem_cons_succ, List.setIfInBounds_toArray, List.set_cons_zero, List.set_cons_succ]
              refine wpAnyP_ready (rs := [8]) (by kernel_rfl) (by simp) (by kernel_rfl) (AllReadyP.cons (o := _) rfl (fun K hK => ?_) AllReadyP.nil)
              (refine step_append_intsL _ rfl (.tmp 85) (.tmp 91) rfl (w.heap.size + 4) (.slice a2 ins.length d2) ins (by simp [go_sem]) HOL.out.2.2.1 _ [_] (by simp [go_sem]) (IntsR.built _ _ [_] (by simp)) (by simp; omega) (by simp; omega) ?_; intro A9 c9 w9 ho9 hg9 hl9; have hll : LowB (gx + 1) (wA.drew.alloc (.cells #[.int .i64 x1] 3)) w9 := LowB.of_grown hg9 (by simp; omega) (fun k hk => by have := (HOL.out.2.2.1.blk k hk).1; omega); have hS2 : w9.cell? ⟨gx, 2, none⟩ = some (.slice a2 ins.length d2) ∧ w9.cell? ⟨w.heap.size, 2, none⟩ = some (.slice (some ⟨bz, oz, none⟩) N.inputs.length c2) ∧ w9.cell? ⟨bz, oz + k, none⟩ = some (.int .i64 x1) := ⟨(hll.cell (by omega)).trans HS1.out.1, (hll.cell (by omega)).trans HS1.out.2.1, (hll.cell (by omega)).trans HS1.out.2.2⟩; have hx9 : Blk w9 gx 27 _ := (hll.block gx (by omega)).trans HPE.out.nb.bx; have fx9 := hx9.free; have cx9 := hx9.cell)
              refine hK.out _ _ (hS2) (fun _ => ?_)
              clear hK K
              try simp only [Act.put, List.getElem_toArray, List.getElem_cons_zero, List.getElem_cons_succ, List.setIfInBounds_toArray, List.set_cons_zero, List.set_cons_succ]
              refine wpAnyP_go (by kernel_rfl) ?_
              refine wpAny_take (i := 9) (oi := _) (v := ?_) rfl (by kernel_rfl) (by kernel_rfl) (by kernel_rfl) (fun _ _ _ h => h) (Or.inl ⟨by rfl, ?_⟩) ?_
              case refine_2 => intro w0; go_simp; with_reducible rfl
              try simp only [Act.put, List.getElem_toArray, List.getElem_cons_zero, List.getElem_cons_succ, List.setIfInBounds_toArray, List.set_cons_zero, List.set_cons_succ]
              refine wpAny_ready (rs := [10]) (by kernel_rfl) (by simp) (AllReady.cons (o := _) rfl (fun K hK => ?_) AllReady.nil)
              go_simp
              refine hK _ _ ?_
              clear hK K
              refine wpAny_done (by kernel_rfl) ?_ _
              have HP4 := Lib.hid (PS.appZ HPE.out ho9 hg9 hl9)
              clear hS0 hS1 hS2 HS1 hll hx9 fx9 cx9 ho9 hg9 hl9 HPE HOL HBA HNB2 HP3
              generalize hwb : w9.setCell ⟨gx, 2, none⟩ (.slice A9 (ins.length + 1) c9) = wB at *
              clear hwb
              have HNB3 := Lib.hid ((HP4.out.low.block w.heap.size (by omega)).trans HK1.out)
              have cN3 := Blk.cell (w := wB) HNB3.out
              rcases HID.out with hz0 | hz0
              · have hng : ¬ (0 : Int) < (N.ids.length : Int) := by omega
                have HIE : Hid (ids = N.ids.take (k + 1)) := Lib.hid (by rw [HIDS.out, List.eq_nil_of_length_eq_zero hz0]; simp)
                clear hz0
                go_wp2_with fail
                go_roundw
                case rel => exact ⟨k + 1, A8, a1, A9, c8, d1, c9, ids, ins ++ [x1], by omega, by go_num, HIE.out, HIS1.out, by rw [List.length_append]; exact HP4.out⟩
                case measure => simp [intOf]; omega
              · have hgt : (0 : Int) < (N.ids.length : Int) := by omega
                have HZ0 := Lib.hid hz0
                clear hz0
                go_upto_region 28 with fail
                clear cN3
                obtain ⟨x2, hx⟩ : ∃ x, x = gi N.ids k := ⟨_, rfl⟩
                have hkin : k < N.ids.length := by have := HZ0.out; omega
                have HIS2 : Hid (ids ++ [x2] = N.ids.take (k + 1)) := Lib.hid (by rw [take_gi hkin, ← HIDS.out, hx])
                obtain ⟨bz, oz, rfl, -, hzc⟩ := HYI.out (by omega)
                have z1 := hzc k hkin
                rw [← hx] at z1
                have hbz := lt_of_cell z1
                have HBA : Hid (Below w.heap.size w wB) := Lib.hid (belowLow HB1.out HP4.out.low (by omega))
                have zk : wB.cell? ⟨bz, oz + k, none⟩ = some (.int .i64 x2) := (HBA.out.cell (p := ⟨bz, oz + k, none⟩) hbz).trans z1
                have HNB2 := Lib.hid ((HP4.out.low.block w.heap.size (by omega)).trans HK1.out)
                have kins : (k : Int) < (N.ids.length : Int) := by omega
                clear hzc z1 hx
                have hszA := HP4.out.sz
                have hS0 : wB.drew.cell? ⟨gx, 1, none⟩ = some (.slice a1 ids.length d1) ∧ wB.drew.cell? ⟨w.heap.size, 1, none⟩ = some (.slice (some ⟨bz, oz, none⟩) N.ids.length c1) ∧ wB.drew.cell? ⟨bz, oz + k, none⟩ = some (.int .i64 x2) := ⟨HP4.out.nb.bx.cell 1, Blk.cell (w := wB) HNB2.out 1, zk⟩
                have HPE := Lib.hid ((HP4.out.below ((Below.refl _ _).drew)).below ((Below.refl wB.drew.heap.size wB.drew).alloc (Nat.le_refl _) (.cells #[.int .i64 x2] 3)))
                have HOL := Lib.hid HPE.out.nb.parts
                have hla : LowB (gx + 1) wB.drew (wB.drew.alloc (.cells #[.int .i64 x2] 3)) := LowB.of_below ((Below.refl wB.drew.heap.size wB.drew).alloc (Nat.le_refl _) _) (by simp; omega)
                have hS1 : (wB.drew.alloc (.cells #[.int .i64 x2] 3)).cell? ⟨gx, 1, none⟩ = some (.slice a1 ids.length d1) ∧ (wB.drew.alloc (.cells #[.int .i64 x2] 3)).cell? ⟨w.heap.size, 1, none⟩ = some (.slice (some ⟨bz, oz, none⟩) N.ids.length c1) ∧ (wB.drew.alloc (.cells #[.int .i64 x2] 3)).cell? ⟨bz, oz + k, none⟩ = some (.int .i64 x2) :=
                  ⟨(hla.cell (by omega)).trans hS0.1, (hla.cell (by omega)).trans hS0.2.1, (hla.cell (by omega)).trans hS0.2.2⟩
                have HS1 := Lib.hid hS1
                clear zk hla
                refine wp_region_any (by kernel_rfl) ?_
                try (change wpAny _ _ _ _ _ _ _ (World.drew _))
                simp only [List.size_toArray, List.length_cons, List.length_nil, Array.replicate, List.replicate]
                refine wpAny_take (i := 0) (oi := _) (v := ?_) rfl (by kernel_rfl) (by kernel_rfl) (by kernel_rfl) (fun _ _ _ h => h) (Or.inl ⟨by rfl, ?_⟩) ?_
                case refine_2 => intro w0; go_simp; with_reducible rfl
                try simp only [Act.put, List.getElem_toArray, List.getElem_cons_zero, List.getElem_cons_succ, List.setIfInBounds_toArray, List.set_cons_zero, List.set_cons_succ]
                refine wpAny_take (i := 2) (oi := _) (v := ?_) rfl (by kernel_rfl) (by kernel_rfl) (by kernel_rfl) (fun _ _ _ h => h) (Or.inl ⟨by rfl, ?_⟩) ?_
                case refine_2 => intro w0; go_simp; with_reducible rfl
                try simp only [Act.put, List.getElem_toArray, List.getElem_cons_zero, List.getElem_cons_succ, List.setIfInBounds_toArray, List.set_cons_zero, List.set_cons_succ]
                refine wpAny_take (i := 4) (oi := _) (v := ?_) rfl (by kernel_rfl) (by kernel_rfl) (by kernel_rfl) (fun _ _ _ h => h) (Or.inl ⟨by rfl, ?_⟩) ?_
                case refine_2 => intro w0; go_simp; with_reducible rfl
                try simp only [Act.put, List.getElem_toArray, List.getElem_cons_zero, List.getElem_cons_succ, List.setIfInBounds_toArray, List.set_cons_zero, List.set_cons_succ]
                refine wpAny_of_P (S := fun W => W.cell? ⟨gx, 1, none⟩ = some (.slice a1 ids.length d1) ∧ W.cell? ⟨w.heap.size, 1, none⟩ = some (.slice (some ⟨bz, oz, none⟩) N.ids.length c1) ∧ W.cell? ⟨bz, oz + k, none⟩ = some (.int .i64 x2)) (n1 := 9) _ _ _ _ ?_
                refine wpAnyP_take (i := 1) (oi := _) (v := ?_) rfl (by kernel_rfl) (by kernel_rfl) (by kernel_rfl) (by omega) (by kernel_rfl) (fun _ _ _ h => h) (Or.inl ⟨by rfl, ?_⟩) (hS0) ?_
                case refine_2 => intro w0 hS0; obtain ⟨h0, h1, h2⟩ := hS0; go_simp; try with_reducible rfl
                try simp only [Act.put, List.getElem_toArray, List.getElem_cons_zero, List.getElem_cons_succ, List.setIfInBounds_toArray, List.set_cons_zero, List.set_cons_succ]
                refine wpAnyP_take (i := 3) (oi := _) (v := ?_) rfl (by kernel_rfl) (by kernel_rfl) (by kernel_rfl) (by omega) (by kernel_rfl) (fun _ _ _ h => h) (Or.inl ⟨by rfl, ?_⟩) (hS0) ?_
                case refine_2 => intro w0 hS0; obtain ⟨h0, h1, h2⟩ := hS0; go_simp; try with_reducible rfl
                try simp only [Act.put, List.getElem_toArray, List.getElem_cons_zero, List.getElem_cons_succ, List.setIfInBounds_toArray, List.set_cons_zero, List.set_cons_succ]
                refine wpAnyP_take (i := 5) (oi := _) (v := ?_) rfl (by kernel_rfl) (by kernel_rfl) (by kernel_rfl) (by omega) (by kernel_rfl) (fun _ _ _ h => h) (Or.inl ⟨by rfl, ?_⟩) (hS0) ?_
                case refine_2 => intro w0 hS0; obtain ⟨h0, h1, h2⟩ := hS0; go_simp; try with_reducible rfl
                try simp only [Act.put, List.getElem_toArray, List.getElem_cons_zero, List.getElem_cons_succ, List.setIfInBounds_toArray, List.set_cons_zero, List.set_cons_succ]
                refine wpAnyP_take (i := 6) (oi := _) (v := ?_) rfl (by kernel_rfl) (by kernel_rfl) (by kernel_rfl) (by omega) (by kernel_rfl) (fun _ _ _ h => h) (Or.inl ⟨by rfl, ?_⟩) (hS0) ?_
                case refine_2 => intro w0 hS0; obtain ⟨h0, h1, h2⟩ := hS0; go_simp; try with_reducible rfl
                try simp only [Act.put, List.getElem_toArray, List.getElem_cons_zero, List.getElem_cons_succ, List.setIfInBounds_toArray, List.set_cons_zero, List.set_cons_succ]
                refine wpAnyP_ready (rs := [7]) (by kernel_rfl) (by simp) (by kernel_rfl) (AllReadyP.cons (o := _) rfl (fun K hK => ?_) AllReadyP.nil)
                go_simp
                refine hK.out _ _ (hS1) (fun _ => ?_)
                clear hK K
                try simp only [Act.put, List.getElem_toArray, List.getElem_cons_zero, List.getElem_cons_succ, List.setIfInBounds_toArray, List.set_cons_zero, List.set_cons_succ]
                refine wpAnyP_ready (rs := [8]) (by kernel_rfl) (by simp) (by kernel_rfl) (AllReadyP.cons (o := _) rfl (fun K hK => ?_) AllReadyP.nil)
                (refine step_append_intsL _ rfl (.tmp 99) (.tmp 105) rfl (w.heap.size + 4) (.slice a1 ids.length d1) ids (by simp [go_sem]) HOL.out.2.1 _ [_] (by simp [go_sem]) (IntsR.built _ _ [_] (by simp)) (by simp; omega) (by simp; omega) ?_; intro A7 c7 w7 ho9 hg9 hl9; have hll : LowB (gx + 1) (wB.drew.alloc (.cells #[.int .i64 x2] 3)) w7 := LowB.of_grown hg9 (by simp; omega) (fun k hk => by have := (HOL.out.2.1.blk k hk).1; omega); have hS2 : w7.cell? ⟨gx, 1, none⟩ = some (.slice a1 ids.length d1) ∧ w7.cell? ⟨w.heap.size, 1, none⟩ = some (.slice (some ⟨bz, oz, none⟩) N.ids.length c1) ∧ w7.cell? ⟨bz, oz + k, none⟩ = some (.int .i64 x2) := ⟨(hll.cell (by omega)).trans HS1.out.1, (hll.cell (by omega)).trans HS1.out.2.1, (hll.cell (by omega)).trans HS1.out.2.2⟩; have hx9 : Blk w7 gx 27 _ := (hll.block gx (by omega)).trans HPE.out.nb.bx; have fx9 := hx9.free; have cx9 := hx9.cell)
                refine hK.out _ _ (hS2) (fun _ => ?_)
                clear hK K
                try simp only [Act.put, List.getElem_toArray, List.getElem_cons_zero, List.getElem_cons_succ, List.setIfInBounds_toArray, List.set_cons_zero, List.set_cons_succ]
                refine wpAnyP_go (by kernel_rfl) ?_
                refine wpAny_take (i := 9) (oi := _) (v := ?_) rfl (by kernel_rfl) (by kernel_rfl) (by kernel_rfl) (fun _ _ _ h => h) (Or.inl ⟨by rfl, ?_⟩) ?_
                case refine_2 => intro w0; go_simp; with_reducible rfl
                try simp only [Act.put, List.getElem_toArray, List.getElem_cons_zero, List.getElem_cons_succ, List.setIfInBounds_toArray, List.set_cons_zero, List.set_cons_succ]
                refine wpAny_ready (rs := [10]) (by kernel_rfl) (by simp) (AllReady.cons (o := _) rfl (fun K hK => ?_) AllReady.nil)
                go_simp
                refine hK _ _ ?_
                clear hK K
                refine wpAny_done (by kernel_rfl) ?_ _
                have HP5 := Lib.hid (PS.appY HPE.out ho9 hg9 hl9)
                clear hS0 hS1 hS2 HS1 hll hx9 fx9 cx9 ho9 hg9 hl9 HPE HOL HBA HNB2 HP4
                go_wp2_with fail
                go_roundw
                case rel => exact ⟨k + 1, A8, A7, A9, c8, c7, c9, ids ++ [x2], ins ++ [x1], by omega, by go_num, HIS2.out, HIS1.out, by rw [List.length_append, List.length_append]; exact HP5.out⟩
                case measure => simp [intOf]; omega
        · obtain rfl : k = N.ends.length := by omega
          have hjx : ¬ ((N.ends.length : Int) < (N.ends.length : Int)) := by omega
          have hid1 : ids = N.ids := by rw [HIDS.out, List.take_of_length_le (by rcases HID.out with h | h <;> omega)]
          have hin1 : ins = N.inputs := by rw [HINS.out, List.take_of_length_le (by have := HIN.out; omega)]
          subst hid1
          have HP6 : Hid (PS w0 gx (w.heap.size + 3) (w.heap.size + 4) (.slice a0 N.ends.length d0) (.slice a1 N.ids.length d1) (.slice a2 ins.length d2) ⟨partK N.ends keep, N.ids, ins⟩ s f wr3) := HPS
          have c7 := HP6.out.nb.bx.cell
          have hres : Blk wr3 (w.heap.size + 1) 27 #[.slice none 0 0, .slice none 0 0, .slice none 0 0] := (HP6.out.low.block (w.heap.size + 1) (by omega)).trans HE11.out
          obtain ⟨q1, q2, q3⟩ := resStoreT (w := w) hres (by omega) HBW.out HP6.out.nb.ow (by omega)
          have hc := q1.cell
          have HFI := Lib.hid (And.intro q2 q3)
          have kc := hres.cell
          have kf := hres.free
          have s3 := Lib.hid hres
          have HI1 := Lib.hid hin1
          clear q1 q2 q3 hres hk hlt hin1
          unfold set3 at hc
          go_wp2_with fail
          obtain ⟨s0, s1, s2⟩ := res3 (x := .slice a0 N.ends.length d0) (y := .slice a1 N.ids.length d1) (z := .slice a2 ins.length d2) s3.out
          exact bodyPost_ret (v := .agg #[.slice a0 N.ends.length d0, .slice a1 N.ids.length d1, .slice a2 ins.length d2]) (by simp [results, Try.results32, go_sem, hc, s0, s1, s2]) rfl ⟨_, rfl, by rw [← HI1.out]; exact HFI.out.1, HFI.out.2⟩
end Go.Proofs.Ytkbhbbehidhknaa

namespace Go.Proofs.Ytkbhbbehidhknaa
open Go.RowKit

set_option maxRecDepth 100000 in
set_option maxHeartbeats 2000000 in
theorem kept_any (w : World) (g8 g9 : Nat) (a b c d : Int) (k i : Nat) (h8 : Blk w g8 35 #[.int .i64 a, .int .i64 b]) (h9 : Blk w g9 35 #[.int .i64 c, .int .i64 d]) :
    Calls Try.prog 34 #[.int .i64 (k : Int), .int .i64 (i : Int), .pointer (some ⟨g8, 0, none⟩), .pointer (some ⟨g9, 0, none⟩)] w (fun e w' => Below w.heap.size w w' ∧ e = .returned (.bool (keepB (a, b) (c, d) k i))) := by
  have c8 := h8.cell
  have c9 := h9.cell
  have HB := Lib.hid (Below.refl w.heap.size w)
  clear h8 h9
  by_cases e1 : (k : Int) = a ∧ (i : Int) = b
  · have HK : Hid (keepB (a, b) (c, d) k i = false) := Lib.hid (by unfold keepB; simp [e1])
    obtain ⟨rfl, rfl⟩ := e1
    go_enter Try.func34, Try.ntmps34
    go_wp2_with fail
    exact bodyPost_ret (v := .bool false) (by simp [results, Try.results34, go_sem]) rfl ⟨HB.out, by rw [HK.out]⟩
  · by_cases e2 : (k : Int) = c ∧ (i : Int) = d
    · have HK : Hid (keepB (a, b) (c, d) k i = false) := Lib.hid (by unfold keepB; simp [e2])
      obtain ⟨rfl, rfl⟩ := e2
      go_enter Try.func34, Try.ntmps34
      go_wp2_with fail
      all_goals exact bodyPost_ret (v := .bool false) (by simp [results, Try.results34, go_sem]) rfl ⟨HB.out, by rw [HK.out]⟩
    · have HK : Hid (keepB (a, b) (c, d) k i = true) := Lib.hid (by unfold keepB; simp [e1, e2])
      go_enter Try.func34, Try.ntmps34
      go_wp2_with fail
      all_goals exact bodyPost_ret (v := .bool true) (by simp [results, Try.results34, go_sem]) rfl ⟨HB.out, by rw [HK.out]⟩
end Go.Proofs.Ytkbhbbehidhknaa
