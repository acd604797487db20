/- The drawing of networks: ports and inputs mixed. -/
import Derived.Test.YtljjbhihllnnaaaGreatCJn15
import Derived.Test.YtljjbhihllnnaaaGreatCNw4
import Derived.Test.YtljjbhihllnnaaaGreatCJn1
import Derived.Test.YtljjbhihllnnaaaGreatCJn3
namespace Go.Proofs.YtljjbhihllnnaaaGreat
open Go.RowKit

/-- a network of the call's own with the property P; the cursor goes on -/
def RetDr (w : World) (B gc : Nat) (cv : Value) (L A : Nat) (P : Net → Prop) (e : Ending) (w' : World) : Prop :=
  ∃ v N, e = .returned v ∧ OwnNt w' B v N ∧ P N ∧ CurR w' gc cv L A ∧ CurB B gc w w'

set_option maxRecDepth 100000 in
set_option maxHeartbeats 4000000 in
theorem mixed_any (w : World) (gc : Nat) (cv : Value) (L A B : Nat) (u : Value) (N : Net) (hc : CurR w gc cv L A) (hp : A + 1099511627776 ≤ 4611686018427387900) (hf : FarV cv B) (hgc : gc < B) (hB : B ≤ w.heap.size)
    (ho : OwnNt w B u N) (hs : Small N) (hsym : Sym N.ends) :
    Calls Tryz.prog 123 #[.pointer (some ⟨gc, 0, none⟩), u] w (RetDr w B gc cv L (A + 1099511627776) (Alike N)) := by
  obtain ⟨E0, e0, E1, e1, E2, e2, rfl⟩ := ho.parts
  have hs1 := hs.1
  have hs4 := hs.2.2.2
  have HS := Lib.hid hs
  have HF := Lib.hid hf
  obtain ⟨wz, hwz⟩ : ∃ wz, wz = (w.alloc (.cells #[.slice E0 N.ends.length e0, .slice E1 N.ids.length e1, .slice E2 N.inputs.length e2] 27)).alloc (.cells #[.slice none 0 0, .slice none 0 0, .slice none 0 0] 27) := ⟨_, rfl⟩
  have hzs : wz.heap.size = w.heap.size + 1 + 1 := by rw [hwz]; simp
  have hbz : Below w.heap.size w wz := by rw [hwz]; exact ((Below.refl _ _).alloc (Nat.le_refl _) _).alloc (by simp) _
  have HK : Hid (Blk wz w.heap.size 27 #[.slice E0 N.ends.length e0, .slice E1 N.ids.length e1, .slice E2 N.inputs.length e2]) := Lib.hid (by rw [hwz]; exact (Blk.new w _ _).alloc _)
  have HR : Hid (Blk wz (w.heap.size + 1) 27 #[.slice none 0 0, .slice none 0 0, .slice none 0 0]) := Lib.hid (by
    rw [hwz]
    have := Blk.new (w.alloc (.cells #[.slice E0 N.ends.length e0, .slice E1 N.ids.length e1, .slice E2 N.inputs.length e2] 27)) 27 #[.slice none 0 0, .slice none 0 0, .slice none 0 0]
    rwa [World.size_alloc] at this)
  have HO := Lib.hid (ho.below hbz)
  have HC := Lib.hid (hc.keep hbz)
  have HCB : Hid (CurB B gc w wz) := Lib.hid (CurB.of_below hbz hB)
  have HAL : Hid (Alike N N) := Lib.hid ⟨rfl, fun _ => rfl, hsym, rfl, rfl⟩
  have HZ := Lib.hid hwz
  have hlt1 := hc.lt
  clear hwz hbz ho hs hsym hc hf
  go_enter Tryz.func123, Tryz.ntmps123
  go_upto_region 1 with (fail)
  rw [← HZ.out]
  clear HZ
  have kb := HK.out.cell
  go_wp2_with fail
  clear kb
  go_loopw [10] (fun vi wr => ∃ (k : Nat) (N' : Net) (F0 F1 F2 : Option Addr) (f0 f1 f2 : Nat), k ≤ N.ends.length ∧ vi = .int .i64 k ∧ Alike N N' ∧ Blk wr w.heap.size 27 #[.slice F0 N'.ends.length f0, .slice F1 N'.ids.length f1, .slice F2 N'.inputs.length f2] ∧
      OwnNt wr B (.agg #[.slice F0 N'.ends.length f0, .slice F1 N'.ids.length f1, .slice F2 N'.inputs.length f2]) N' ∧ CurR wr gc cv L (A + k * 524290) ∧ CurB B gc w wr ∧ Blk wr (w.heap.size + 1) 27 #[.slice none 0 0, .slice none 0 0, .slice none 0 0])
    (fun vi _ => N.ends.length - (intOf vi).toNat)
  case atStart => exact ⟨0, N, E0, E1, E2, e0, e1, e2, Nat.zero_le _, rfl, HAL.out, HK.out, HO.out, by simpa using HC.out, HCB.out, HR.out⟩
  case round =>
    clear HK HO HC HCB HR HAL
    obtain ⟨k, N', F0, F1, F2, f0, f1, f2, hk, rfl, hal, hbx, hown, hcur, hcb, hres⟩ := hrel
    have HAL := Lib.hid hal
    have HBX := Lib.hid hbx
    have HOW := Lib.hid hown
    have HCU := Lib.hid hcur
    have HCB := Lib.hid hcb
    have HRE := Lib.hid hres
    have hzr := hres.lt
    clear hal hbx hown hcur hcb hres
    by_cases hlt : k < N.ends.length
    · go_wp2_with (go_at_call 64; refine (one_any wr gc cv L (A + k * 524290) 2 HCU.out (by omega)).mono ?_; rintro e w1 ⟨b, rfl, hc1, hg1⟩; cases b)
      · have HC1 := Lib.hid hc1
        have HG1 := Lib.hid hg1
        clear hc1 hg1
        go_roundw
        case rel => exact ⟨k + 1, N', F0, F1, F2, f0, f1, f2, by omega, by go_num, HAL.out, HBX.out.grown HG1.out (by simp; omega), HOW.out.grown HG1.out hgc, HC1.out.mono (by omega), HCB.out.trans (CurB.of_grown HG1.out (by omega)), HRE.out.grown HG1.out (by simp; omega)⟩
        case measure => simp [intOf]; omega
      · have hk' : k < N'.ends.length := by rw [HAL.out.len]; exact hlt
        have hown1 := HOW.out.grown hg1 hgc
        have HOW1 := Lib.hid hown1
        have HBX1 := Lib.hid (HBX.out.grown hg1 (by simp; omega))
        have HRE1 := Lib.hid (HRE.out.grown hg1 (by simp; omega))
        have HCB1 := Lib.hid (HCB.out.trans (CurB.of_grown hg1 (by omega)))
        have HC1 := Lib.hid hc1
        have hz1 := hg1.size
        have hsm := HAL.out.small HS.out
        have hdk := hsm.2.1 k hk'
        have HSM := Lib.hid hsm
        obtain ⟨ve, vi, vn, hv, he, -, -⟩ := hown1.net (S := fun _ => True) (fun _ _ _ => trivial)
        obtain ⟨Ae, ce, rfl, -, -, hxe⟩ := he
        obtain ⟨be, offe, rfl, -, hce⟩ := hxe (by omega)
        obtain ⟨uk, huk, hrk⟩ := hce k hk'
        obtain ⟨Ak, ck, rfl, hnk, hmk, -⟩ := hrk
        unfold maxLen at hmk
        simp only [Value.agg.injEq, Array.mk.injEq, List.cons.injEq, Value.slice.injEq] at hv
        obtain ⟨⟨rfl, -, rfl⟩, -⟩ := hv
        have kb := HBX1.out.cell
        have iv1 : (0 : Int) ≤ (k : Int) := by omega
        have iv2 : (k : Int) < (N'.ends.length : Int) := by omega
        clear hown1 hxe hce hc1 hg1 hsm
        go_region_with (first
          | (go_at_call 167; go_must (refine (perm_any _ gc cv L (A + k * 524290 + 2) (gl N'.ends k).length (HC1.out.keep (Below.refl _ _).drew) (by omega) (by omega)).mono ?_; rintro e w2 ⟨g, π, rfl, hoπ, hpm, hc2, hg2⟩; have hbx2 : Blk w2 w.heap.size 27 #[.slice (some ⟨be, offe, none⟩) N'.ends.length f0, .slice F1 N'.ids.length f1, .slice F2 N'.inputs.length f2] := (hg2.block w.heap.size HBX1.out.lt (by simp; omega)).trans HBX1.out; have kb2 := hbx2.cell; have hz2 := hg2.size))
          | (go_at_call 166; refine (nePorts_any (S := fun _ => True) _ _ N' k π _ ((HOW1.out.below (Below.refl _ _).drew).grown hg2 hgc |>.net (fun _ _ _ => trivial)) hoπ.ints HSM.out hk' HAL.out.sym hpm).mono ?_; rintro e w3 ⟨v3, rfl, ho3, hb3⟩; obtain ⟨G0, g0, G1, g1, G2, g2, rfl⟩ := ho3.parts; have hbx3 := hbx2.below hb3; have kb3 := hbx3.cell; have fb3 := hbx3.free))
        all_goals
          have hkp : ∀ b, w2.heap.size ≤ b → b < w3.heap.size → (set3 w3 w.heap.size (.slice G0 (portsN N' k π).ends.length g0) (.slice G1 (portsN N' k π).ids.length g1) (.slice G2 (portsN N' k π).inputs.length g2)).heap[b]? = w3.heap[b]? := fun b hb _ => set3_block _ _ _ _ _ (by have := hbx2.lt; omega)
          have hzz : B ≤ w2.heap.size := by have := hbx2.lt; omega
          have HN1 := Lib.hid ((ho3.keepB hkp).mono hzz)
          have HN2 := Lib.hid (set3_blk (x := .slice G0 (portsN N' k π).ends.length g0) (y := .slice G1 (portsN N' k π).ids.length g1) (z := .slice G2 (portsN N' k π).inputs.length g2) hbx3)
          have HN3 := Lib.hid ((((hc2.keep hb3).above HF.out hgc (p := ⟨w.heap.size, 0, none⟩) hB (.slice G0 (portsN N' k π).ends.length g0)).above HF.out hgc (p := ⟨w.heap.size, 1, none⟩) hB (.slice G1 (portsN N' k π).ids.length g1)).above HF.out hgc (p := ⟨w.heap.size, 2, none⟩) hB (.slice G2 (portsN N' k π).inputs.length g2))
          have hcb2 : CurB B gc w w2 := HCB1.out.trans ((CurB.of_below (Below.refl w1.heap.size w1).drew (by omega)).trans (CurB.of_grown hg2 (by have := HBX1.out.lt; simp; omega)))
          have HN4 := Lib.hid ((((hcb2.trans (CurB.of_below hb3 hzz)).setCell (p := ⟨w.heap.size, 0, none⟩) hB (.slice G0 (portsN N' k π).ends.length g0)).setCell (p := ⟨w.heap.size, 1, none⟩) hB (.slice G1 (portsN N' k π).ids.length g1)).setCell (p := ⟨w.heap.size, 2, none⟩) hB (.slice G2 (portsN N' k π).inputs.length g2))
          have hre3 : Blk w3 (w.heap.size + 1) 27 #[.slice none 0 0, .slice none 0 0, .slice none 0 0] := Blk.below ((hg2.block (w.heap.size + 1) HRE1.out.lt (by simp; omega)).trans HRE1.out) hb3
          have HN5 := Lib.hid ((set3_block w3 w.heap.size (.slice G0 (portsN N' k π).ends.length g0) (.slice G1 (portsN N' k π).ids.length g1) (.slice G2 (portsN N' k π).inputs.length g2) (b := w.heap.size + 1) (by omega)).trans hre3)
          have HN6 := Lib.hid (HAL.out.ports hpm)
          clear hkp hcb2 hre3 hbx2 kb2 hbx3 kb3 fb3 ho3 hb3 hoπ hpm hc2 hg2 kb huk
          go_wp2_with fail
          go_roundw
          case rel => exact ⟨k + 1, portsN N' k π, G0, G1, G2, g0, g1, g2, by omega, by go_num, HN6.out, HN2.out, HN1.out, HN3.out.mono (by omega), HN4.out, HN5.out⟩
          case measure => simp [intOf]; omega
    · have hal := HAL.out
      obtain rfl : k = N.ends.length := by omega
      go_upto_region 7 with (fail)
      go_cut [28] (fun vb W => ∃ b : Bool, vb = .bool b ∧ Blk W w.heap.size 27 #[.slice F0 N'.ends.length f0, .slice F1 N'.ids.length f1, .slice F2 N'.inputs.length f2] ∧
        OwnNt W B (.agg #[.slice F0 N'.ends.length f0, .slice F1 N'.ids.length f1, .slice F2 N'.inputs.length f2]) N' ∧ CurR W gc cv L (A + N.ends.length * 524290 + 2) ∧ CurB B gc w W ∧ Blk W (w.heap.size + 1) 27 #[.slice none 0 0, .slice none 0 0, .slice none 0 0])
      case first =>
        go_wp2_with (go_at_call 64; refine (one_any wr gc cv L (A + N.ends.length * 524290) 3 HCU.out (by omega)).mono ?_; rintro e w1 ⟨b, rfl, hc1, hg1⟩)
        go_meet
        exact ⟨b, rfl, HBX.out.grown hg1 (by simp; omega), HOW.out.grown hg1 hgc, hc1, HCB.out.trans (CurB.of_grown hg1 (by omega)), HRE.out.grown hg1 (by simp; omega)⟩
      case rest =>
      obtain ⟨b, rfl, hbx, hown, hcur, hcb, hres⟩ := hcut
      clear HBX HOW HCU HCB HRE hzr
      go_step
      go_cut [] (fun W => ∃ (N'' : Net) (G0 G1 G2 : Option Addr) (g0 g1 g2 : Nat), Alike N N'' ∧ Blk W w.heap.size 27 #[.slice G0 N''.ends.length g0, .slice G1 N''.ids.length g1, .slice G2 N''.inputs.length g2] ∧
        OwnNt W B (.agg #[.slice G0 N''.ends.length g0, .slice G1 N''.ids.length g1, .slice G2 N''.inputs.length g2]) N'' ∧ CurR W gc cv L (A + 1099511627776) ∧ CurB B gc w W ∧ Blk W (w.heap.size + 1) 27 #[.slice none 0 0, .slice none 0 0, .slice none 0 0])
      case first =>
        have hA2 : A + N.ends.length * 524290 + 2 + 524290 ≤ A + 1099511627776 := by omega
        cases b with
        | false =>
          go_wp2_with fail
          go_meet
          exact ⟨N', F0, F1, F2, f0, f1, f2, hal, hbx, hown, hcur.mono (by omega), hcb, hres⟩
        | true =>
          have kb := hbx.cell
          have hinl := hal.ins
          have HAL := Lib.hid hal
          have HBX := Lib.hid hbx
          have HOW := Lib.hid hown
          have HCU := Lib.hid hcur
          have HCB := Lib.hid hcb
          have HRE := Lib.hid hres
          have HIL := Lib.hid hinl
          clear hal hbx hown hcur hcb hres hinl
          obtain ⟨ni, hni⟩ : ∃ ni, ni = N'.inputs.length := ⟨_, rfl⟩
          have hni4 : ni ≤ 262144 := by have := HIL.out; omega
          rw [← hni] at kb HBX HOW
          have HNI := Lib.hid hni
          clear hni
          go_wp2_with fail
          clear kb
          go_loopw [32] (fun x32 wr => ∃ (k : Nat) (N3 : Net), k ≤ ni ∧ x32 = .int .i64 k ∧ Alike N N3 ∧ N3.inputs.length = ni ∧ N3.ends.length = N'.ends.length ∧ N3.ids.length = N'.ids.length ∧ Blk wr w.heap.size 27 #[.slice F0 N'.ends.length f0, .slice F1 N'.ids.length f1, .slice F2 ni f2] ∧
            OwnNt wr B (.agg #[.slice F0 N'.ends.length f0, .slice F1 N'.ids.length f1, .slice F2 ni f2]) N3 ∧ CurR wr gc cv L (A + N.ends.length * 524290 + 2 + 2 * k) ∧ CurB B gc w wr ∧ Blk wr (w.heap.size + 1) 27 #[.slice none 0 0, .slice none 0 0, .slice none 0 0]) (fun x32 _ => ni - (intOf x32).toNat)
          case atStart => exact ⟨0, N', Nat.zero_le _, rfl, HAL.out, HNI.out.symm, rfl, rfl, HBX.out, HOW.out, HCU.out.mono (by omega), HCB.out, HRE.out⟩
          case round =>
            clear HBX HOW HCU HCB HRE HAL
            obtain ⟨k, N3, hk, rfl, hal, h3i, h3e, h3d, hbx, hown, hcur, hcb, hres⟩ := hrel
            obtain ⟨wr2, rfl⟩ : ∃ wr2, wr2 = wr := ⟨_, rfl⟩
            have H3 := Lib.hid (And.intro h3i (And.intro h3e h3d))
            have kb := hbx.cell
            have HAL := Lib.hid hal
            have HBX := Lib.hid hbx
            have HOW := Lib.hid hown
            have HCU := Lib.hid hcur
            have HCB := Lib.hid hcb
            have HRE := Lib.hid hres
            have hzr := hres.lt
            have hzg := hcur.lt
            clear hal hbx hown hcur hcb hres h3e h3d
            by_cases hlt : k < ni
            · have h3k : OwnNt wr2 B (.agg #[.slice F0 N'.ends.length f0, .slice F1 N'.ids.length f1, .slice F2 N3.inputs.length f2]) N3 := by rw [h3i]; exact HOW.out
              obtain ⟨g2, rfl, hg2B, hg2l, hg2c, hg2f⟩ := h3k.inAt (j := k) (by omega)
              have HO3 := Lib.hid h3k
              have iv1 : (0 : Int) ≤ (k : Int) := by omega
              have iv2 : (k : Int) < (ni : Int) := by omega
              have hgg : g2 ≠ gc := by omega
              have hgw : w.heap.size ≠ gc := by omega
              clear h3k h3i
              go_upto_region 11 with (fail)
              go_region_with (go_at_call 63; go_must (refine (pick_any _ gc cv L (A + N.ends.length * 524290 + 2 + 2 * k) 3 (HCU.out.keep (Below.refl _ _).drew) (by omega)).mono ?_; rintro e w3 ⟨x, rfl, hpx, hc3, hgr3⟩; have hbx3 := Blk.grown (w := wr2.drew) HBX.out hgr3 (by simp; omega); have kb3 := hbx3.cell; have kc3 : w3.cell? ⟨g2, k, none⟩ = some (.int .i64 (gi N3.inputs k)) := (World.cell?_of_block (hgr3.block g2 hg2l (by simp; omega))).trans hg2c; have kf3 : w3.frozen? ⟨g2, k, none⟩ = false := (World.frozen?_of_block (hgr3.block g2 hg2l (by simp; omega))).trans hg2f))
              all_goals
                have hown3 := (HO3.out.below (Below.refl wr2.heap.size wr2).drew).grown hgr3 hgc
                have hk3 : KeptBut 3 w3 (w3.setCell ⟨g2, k, none⟩ (.int .i64 x)) := by
                  obtain ⟨ve, vi, vn, hv, -, -, k3, -⟩ := hown3
                  simp only [Value.agg.injEq, Array.mk.injEq, List.cons.injEq, and_true] at hv
                  obtain ⟨-, -, rfl⟩ := hv
                  obtain ⟨cs, fr, hc⟩ := rowType k3 g2 rfl
                  exact KeptBut.of_set (p := ⟨g2, k, none⟩) hc _
                have FN := Lib.hid (hown3.putIn (j := k) x)
                rw [H3.out.1] at FN
                have hres3 := Blk.grown (w := wr2.drew) HRE.out hgr3 (by simp; omega)
                have FB := Lib.hid ((hk3 _ _ _ _ hbx3 (by decide)).trans hbx3)
                have FR := Lib.hid ((hk3 _ _ _ _ hres3 (by decide)).trans hres3)
                have FC := Lib.hid (hc3.above HF.out hgc (p := ⟨g2, k, none⟩) hg2B (.int .i64 x))
                have FCB := Lib.hid (((HCB.out.trans (CurB.of_below (Below.refl wr2.heap.size wr2).drew (by omega))).trans (CurB.of_grown hgr3 (by simp; omega))).setCell (p := ⟨g2, k, none⟩) hg2B (.int .i64 x))
                have FA : Hid (Alike N { N3 with inputs := N3.inputs.set k x }) := Lib.hid ⟨HAL.out.len, HAL.out.deg, HAL.out.sym, HAL.out.ids, by have := HAL.out.ins; simpa using this⟩
                clear hown3 hk3 hres3 hbx3 kb3 kc3 kf3 hc3 hgr3 hpx
                go_wp2_with fail
                go_roundw
                case rel => exact ⟨k + 1, { N3 with inputs := N3.inputs.set k x }, by omega, by go_num, FA.out, by simp [H3.out.1], H3.out.2.1, H3.out.2.2, FB.out, FN.out, FC.out.mono (by omega), FCB.out, FR.out⟩
                case measure => simp [intOf]; omega
            · obtain rfl : k = ni := by omega
              go_wp2_with fail
              go_meet
              refine ⟨N3, F0, F1, F2, f0, f1, f2, HAL.out, ?_, ?_, HCU.out.mono (by omega), HCB.out, HRE.out⟩
              · rw [H3.out.2.1, H3.out.2.2, h3i]; exact HBX.out
              · rw [H3.out.2.1, H3.out.2.2, h3i]; exact HOW.out
      case rest =>
      obtain ⟨N'', G0, G1, G2, g0, g1, g2, hal, hbx, hown, hcur, hcb, hres⟩ := hcut
      obtain ⟨wd, hwd⟩ : ∃ wd, wd = wc := ⟨_, rfl⟩
      rw [← hwd] at hbx hown hcur hcb hres ⊢
      clear hwd
      have kb := hbx.cell
      have kr := hres.cell
      have fr := hres.free
      have hkb := set3_but (x := .slice G0 N''.ends.length g0) (y := .slice G1 N''.ids.length g1) (z := .slice G2 N''.inputs.length g2) hres
      have hfin := (set3_blk (x := .slice G0 N''.ends.length g0) (y := .slice G1 N''.ids.length g1) (z := .slice G2 N''.inputs.length g2) hres).cell
      unfold set3 at hfin
      have FO := Lib.hid (hown.but hkb (by decide) (by decide) (by decide))
      have FC := Lib.hid (((hcur.above HF.out hgc (p := ⟨w.heap.size + 1, 0, none⟩) (by simp only; omega) (.slice G0 N''.ends.length g0)).above HF.out hgc (p := ⟨w.heap.size + 1, 1, none⟩) (by simp only; omega) (.slice G1 N''.ids.length g1)).above HF.out hgc (p := ⟨w.heap.size + 1, 2, none⟩) (by simp only; omega) (.slice G2 N''.inputs.length g2))
      have FCB := Lib.hid (((hcb.setCell (p := ⟨w.heap.size + 1, 0, none⟩) (by simp only; omega) (.slice G0 N''.ends.length g0)).setCell (p := ⟨w.heap.size + 1, 1, none⟩) (by simp only; omega) (.slice G1 N''.ids.length g1)).setCell (p := ⟨w.heap.size + 1, 2, none⟩) (by simp only; omega) (.slice G2 N''.inputs.length g2))
      have HAL := Lib.hid hal
      clear hal hbx hown hcur hcb hres hkb
      go_wp2_with fail
      exact bodyPost_ret (v := .agg #[.slice G0 N''.ends.length g0, .slice G1 N''.ids.length g1, .slice G2 N''.inputs.length g2]) (by simp [results, Tryz.results123, go_sem, hfin]) rfl ⟨_, N'', rfl, FO.out, HAL.out, FC.out, FCB.out⟩
end Go.Proofs.YtljjbhihllnnaaaGreat
