/- Parts of the proof, joined: Cn2, Cds, Cdt, Cn4, Dra, Byr, Drd, Nbx, Nof. -/
import Derived.Test.YtljjbhihllnnaaaGreatCCn1
import Derived.Test.YtljjbhihllnnaaaGreatCJn1
import Derived.Test.YtljjbhihllnnaaaGreatCJn16
import Derived.Test.YtljjbhihllnnaaaGreatCNw3
import Derived.Test.YtljjbhihllnnaaaGreatCJn15
import Derived.Test.YtljjbhihllnnaaaGreatCJn3
namespace Go.Proofs.YtljjbhihllnnaaaGreat
open Go.RowKit

/-- the choice t comes within k steps -/
def Hope (L p : Nat) (s : Int) (t k : Nat) : Prop := (p < L ∧ (L - p) + 281474976710658 ≤ k) ∨ (L ≤ p ∧ ∃ n : Nat, n + 1 ≤ k ∧ itS (n + 1) s / 1099511627776 % 256 = t)
theorem Hope.start (L p : Nat) (s : Int) (t : Nat) (ht : t < 256) (hL : L ≤ 1048576) : Hope L p s t 281474977759234 := by
  by_cases h : p < L
  · exact .inl ⟨h, by omega⟩
  · obtain ⟨n, hn, e⟩ := byte_comes s t ht
    exact .inr ⟨by omega, n, by omega, e⟩
/-- a step later: it has come, or there is hope for less -/
theorem Hope.next {L p : Nat} {s s' x : Int} {t v k : Nat} (h : Hope L p s t k) (ht : t < v) (hv : v ≤ 200) (hd : L ≤ p → s' = lcg s 0 ∧ x = s' / 1099511627776 % 256 % (v : Int)) :
    ∃ k', k' < k ∧ (x = (t : Int) ∨ Hope L (p + 1) s' t k') := by
  rcases h with ⟨h1, h2⟩ | ⟨h1, n, h2, h3⟩
  · refine ⟨k - 1, by omega, .inr ?_⟩
    by_cases h : p + 1 < L
    · exact .inl ⟨h, by omega⟩
    · obtain ⟨n, hn, e⟩ := byte_comes s' t (by omega)
      exact .inr ⟨by omega, n, by omega, e⟩
  · obtain ⟨e1, e2⟩ := hd h1
    rcases n with _ | n
    · refine ⟨k - 1, by omega, .inl ?_⟩
      have e3 : itS (0 + 1) s = lcg s 0 := rfl
      rw [e3, ← e1] at h3
      rw [e2, h3, Int.emod_eq_of_lt (by omega) (by omega)]
    · refine ⟨k - 1, by omega, .inr (.inr ⟨by omega, n, by omega, ?_⟩)⟩
      rw [e1]
      have : itS (n + 1 + 1) s = itS (n + 1) (lcg s 0) := by
        rw [itS_add (n + 1) 1 s]; rfl
      rw [← this]; exact h3

/-- a network of the call's own stored into a box -/
theorem boxStore {w W w5 : World} {B BO gc g r L A : Nat} {cv a b c x y z : Value} {rs : Array Value} {N' : Net} (hbx : Blk W g 27 #[a, b, c]) (hres : Blk W r 27 rs) (hne : r ≠ g) (hc : CurR W gc cv L A) (hcb : CurB B gc w W)
    (hf : FarV cv B) (hgc : gc < B) (hgB : B ≤ g) (hBO : BO ≤ W.heap.size) (hb : Below W.heap.size W w5) (ho : OwnNt w5 W.heap.size (.agg #[x, y, z]) N') :
    Blk (set3 w5 g x y z) g 27 #[x, y, z] ∧ OwnNt (set3 w5 g x y z) BO (.agg #[x, y, z]) N' ∧ CurR (set3 w5 g x y z) gc cv L A ∧ CurB B gc w (set3 w5 g x y z) ∧ Blk (set3 w5 g x y z) r 27 rs := by
  have hBW : B ≤ W.heap.size := by have := hbx.lt; omega
  have hb5 := hbx.below hb
  exact ⟨set3_blk hb5, (ho.mono hBO).but (set3_but hb5) (by decide) (by decide) (by decide), (((hc.keep hb).above hf hgc (p := ⟨g, 0, none⟩) hgB x).above hf hgc (p := ⟨g, 1, none⟩) hgB y).above hf hgc (p := ⟨g, 2, none⟩) hgB z,
    (((hcb.trans (CurB.of_below hb hBW)).setCell (p := ⟨g, 0, none⟩) hgB x).setCell (p := ⟨g, 1, none⟩) hgB y).setCell (p := ⟨g, 2, none⟩) hgB z, (set3_block _ _ _ _ _ hne).trans (hres.below hb)⟩
/-- the result of a drawing function stored into the cells of the result, the lowest of its blocks -/
theorem resStore {w W w6 : World} {gc L A' : Nat} {cv x y z a b c : Value} {N' : Net} (hres : Blk W w.heap.size 27 #[a, b, c]) (hf : FarV cv w.heap.size) (hgc : gc < w.heap.size) (hcb : CurB w.heap.size gc w W)
    (ho : OwnNt w6 (w.heap.size + 1) (.agg #[x, y, z]) N') (hc : CurR w6 gc cv L A') (hcb6 : CurB (w.heap.size + 1) gc W w6) :
    Blk w6 w.heap.size 27 #[a, b, c] ∧ OwnNt (set3 w6 w.heap.size x y z) w.heap.size (.agg #[x, y, z]) N' ∧ CurR (set3 w6 w.heap.size x y z) gc cv L A' ∧ CurB w.heap.size gc w (set3 w6 w.heap.size x y z) := by
  have h6 := hres.curB hcb6 (by omega) (by omega)
  exact ⟨h6, (ho.mono (by omega)).but (set3_but h6) (by decide) (by decide) (by decide), ((hc.above hf hgc (p := ⟨w.heap.size, 0, none⟩) (Nat.le_refl _) x).above hf hgc (p := ⟨w.heap.size, 1, none⟩) (Nat.le_refl _) y).above hf hgc (p := ⟨w.heap.size, 2, none⟩) (Nat.le_refl _) z,
    (((hcb.trans (hcb6.mono (by omega))).setCell (p := ⟨w.heap.size, 0, none⟩) (Nat.le_refl _) x).setCell (p := ⟨w.heap.size, 1, none⟩) (Nat.le_refl _) y).setCell (p := ⟨w.heap.size, 2, none⟩) (Nat.le_refl _) z⟩

set_option maxRecDepth 100000 in
set_option maxHeartbeats 4000000 in
theorem tree_any (w : World) (gc : Nat) (cv : Value) (L A m : Nat) (hc : CurR w gc cv L A) (hp : A + 72057594037927936 ≤ 4611686018427387900) (hf : FarV cv w.heap.size) (hm1 : 1 ≤ m) (hm2 : m ≤ 40) :
    Calls Tryz.prog 117 #[.pointer (some ⟨gc, 0, none⟩), .int .i64 m] w (RetDr w w.heap.size gc cv L (A + 72057594037927936) (Drawn m 80)) := by
  have hgc := hc.lt
  have hLb : L ≤ 1048576 := by obtain ⟨_, _, -, h, -⟩ := hc.bytes; exact h
  have HF := Lib.hid hf
  have HB0 := Lib.hid ((Below.refl w.heap.size w).alloc (Nat.le_refl _) (.cells #[.slice none 0 0, .slice none 0 0, .slice none 0 0] 27))
  have HR0 := Lib.hid (Blk.new w 27 #[.slice none 0 0, .slice none 0 0, .slice none 0 0])
  have HC0 := Lib.hid (hc.keep HB0.out)
  have HE := Lib.hid (fun (x : Nat) (W : World) (hx : x ≤ 65535) => (by
    have := neEmpty_any (x + 1) W (by omega)
    rw [show ((x + 1 : Nat) : Int) = 1 + (x : Int) by omega] at this
    exact this : Calls Tryz.prog 120 #[.int .i64 (1 + (x : Int))] W (RetNt W (emptyN (x + 1)))))
  clear hc hf
  go_enter Tryz.func117, Tryz.ntmps117
  go_wp2_with fail
  have hza : (w.alloc (.cells #[.slice none 0 0, .slice none 0 0, .slice none 0 0] 27)).heap.size = w.heap.size + 1 := by simp
  generalize w.alloc (.cells #[.slice none 0 0, .slice none 0 0, .slice none 0 0] 27) = wa at *
  go_upto_region 2 with (first
    | (go_at_call 63; refine (pick_any _ gc cv L A m HC0.out (by omega)).mono ?_; rintro e w1 ⟨x, rfl, hpx, hc1, hg1⟩; obtain ⟨xn, rfl⟩ : ∃ xn : Nat, x = (xn : Int) := ⟨x.toNat, by have := hpx.1; omega⟩; have hx1 := hpx.1; have hx2 := hpx.2.1; have hx3 := hpx.2.2; clear hpx)
    | (go_at_call 120; refine (HE.out xn _ (by omega)).mono ?_; rintro e w2 ⟨v2, rfl, ho2, hb2⟩; obtain ⟨E0, e0, E1, e1, E2, e2, rfl⟩ := ho2.parts))
  have hza1 := hg1.size
  have hza2 := hb2.size
  have hn1 : xn + 1 ≤ m := by omega
  have hres2 := (HR0.out.grown hg1 (by simp; omega)).below hb2
  have hcb2 : CurB w.heap.size gc w w2 := (CurB.of_below HB0.out (Nat.le_refl _)).trans ((CurB.of_grown hg1 (by omega)).trans (CurB.of_below hb2 (by omega)))
  have HO2 := Lib.hid (ho2.below ((Below.refl w2.heap.size w2).alloc (Nat.le_refl _) (.cells #[.slice E0 (emptyN (xn + 1)).ends.length e0, .slice E1 (emptyN (xn + 1)).ids.length e1, .slice E2 (emptyN (xn + 1)).inputs.length e2] 27)))
  have HX2 := Lib.hid (Blk.new w2 27 #[.slice E0 (emptyN (xn + 1)).ends.length e0, .slice E1 (emptyN (xn + 1)).ids.length e1, .slice E2 (emptyN (xn + 1)).inputs.length e2])
  have HC2 := Lib.hid ((hc1.keep hb2).keep ((Below.refl w2.heap.size w2).alloc (Nat.le_refl _) (.cells #[.slice E0 (emptyN (xn + 1)).ends.length e0, .slice E1 (emptyN (xn + 1)).ids.length e1, .slice E2 (emptyN (xn + 1)).inputs.length e2] 27)))
  have HRE := Lib.hid (hres2.alloc (.cells #[.slice E0 (emptyN (xn + 1)).ends.length e0, .slice E1 (emptyN (xn + 1)).ids.length e1, .slice E2 (emptyN (xn + 1)).inputs.length e2] 27))
  have HCB := Lib.hid (hcb2.alloc (by omega) (.cells #[.slice E0 (emptyN (xn + 1)).ends.length e0, .slice E1 (emptyN (xn + 1)).ids.length e1, .slice E2 (emptyN (xn + 1)).inputs.length e2] 27))
  obtain ⟨g5, hg5⟩ : ∃ g, g = w2.heap.size := ⟨_, rfl⟩
  have hg5b : w.heap.size + 1 ≤ g5 := by omega
  rw [← hg5] at HX2
  rw [← hg5]
  have HOX := Lib.hid (HO2.out.mono (B' := w.heap.size + 1) (by omega))
  generalize w2.alloc (.cells #[.slice E0 (emptyN (xn + 1)).ends.length e0, .slice E1 (emptyN (xn + 1)).ids.length e1, .slice E2 (emptyN (xn + 1)).inputs.length e2] 27) = wb at *
  have hgr := Grow.start (n := xn + 1) (m := m) (by omega) hn1
  have hle : (emptyN (xn + 1)).ends.length = xn + 1 := by simp [emptyN]
  have HGR := Lib.hid hgr
  have HLE := Lib.hid hle
  clear hres2 hcb2 ho2 hb2 hc1 hg1 HO2 hg5 hza2 hza1 hgr hle HC0 HR0 HE
  go_wp2_with fail
  go_loopw [6] (fun x6 wr => ∃ (v : Nat) (N : Net) (F0 F1 F2 : Option Addr) (f0 f1 f2 : Nat), x6 = .int .i64 v ∧ 1 ≤ v ∧ v ≤ xn + 1 ∧ N.ends.length = xn + 1 ∧ Grow m v N ∧ Blk wr g5 27 #[.slice F0 N.ends.length f0, .slice F1 N.ids.length f1, .slice F2 N.inputs.length f2] ∧
      OwnNt wr (w.heap.size + 1) (.agg #[.slice F0 N.ends.length f0, .slice F1 N.ids.length f1, .slice F2 N.inputs.length f2]) N ∧ CurR wr gc cv L (A + 2 + v * 562949953421312) ∧ CurB w.heap.size gc w wr ∧ Blk wr w.heap.size 27 #[.slice none 0 0, .slice none 0 0, .slice none 0 0])
    (fun x6 _ => xn + 1 - (intOf x6).toNat)
  case atStart => exact ⟨1, emptyN (xn + 1), E0, E1, E2, e0, e1, e2, rfl, Nat.le_refl _, by omega, HLE.out, HGR.out, HX2.out, HOX.out, HC2.out.mono (by omega), HCB.out, HRE.out⟩
  case round =>
    clear HX2 HOX HC2 HCB HRE HGR HLE
    obtain ⟨v, N, F0, F1, F2, f0, f1, f2, rfl, hv1, hv2, hN, hgr, hbx, hown, hcur, hcb, hres⟩ := hrel
    have HN := Lib.hid hN
    have HGR := Lib.hid hgr
    have HBX := Lib.hid hbx
    have HOW := Lib.hid hown
    have HCU := Lib.hid hcur
    have HCB := Lib.hid hcb
    have HRE := Lib.hid hres
    have hzr := hbx.lt
    have kb := hbx.cell
    clear hN hgr hbx hown hcur hcb hres
    by_cases hlt : v < xn + 1
    · have hltN : (v : Int) < (N.ends.length : Int) := by have := HN.out; omega
      go_wp2_with (go_at_call 63; refine (pick_any _ gc cv L (A + 2 + v * 562949953421312) v HCU.out (by omega)).mono ?_; rintro e w3 ⟨x, rfl, hpx, hc3, hg3⟩; obtain ⟨x0, rfl⟩ : ∃ x0 : Nat, x = (x0 : Int) := ⟨x.toNat, by have := hpx.1; omega⟩; have hx0 : x0 < v := by { have := hpx.2.2; omega }; clear hpx)
      have HBX3 := Lib.hid (HBX.out.grown hg3 (by simp; omega))
      have HOW3 := Lib.hid (HOW.out.grown hg3 (by omega))
      have HCB3 := Lib.hid (HCB.out.trans (CurB.of_grown hg3 (by have := HCB.out.size; omega)))
      have HRE3 := Lib.hid (HRE.out.grown hg3 (by simp; omega))
      have hz3 := hg3.size
      obtain ⟨p0, s0, hp0, hcs0⟩ := hc3
      have HCS0 := Lib.hid hcs0
      have HH := Lib.hid (Hope.start L p0 s0 (v - 1) (by omega) hLb)
      have HSM := Lib.hid (HGR.out.d.small (by omega) (by omega))
      clear hcs0 hg3 kb
      go_loopg [7] 281474977759234 (fun k x7 W => ∃ (x : Nat) (p : Nat) (s : Int), x7 = .int .i64 x ∧ x < v ∧ p + k ≤ A + 2 + v * 562949953421312 + 2 + 281474977759234 ∧ CurS W gc cv L p s ∧ (x = v - 1 ∨ Hope L p s (v - 1) k) ∧
        Blk W g5 27 #[.slice F0 N.ends.length f0, .slice F1 N.ids.length f1, .slice F2 N.inputs.length f2] ∧ OwnNt W (w.heap.size + 1) (.agg #[.slice F0 N.ends.length f0, .slice F1 N.ids.length f1, .slice F2 N.inputs.length f2]) N ∧ CurB w.heap.size gc w W ∧ Blk W w.heap.size 27 #[.slice none 0 0, .slice none 0 0, .slice none 0 0])
      case atStart => exact ⟨x0, p0, s0, rfl, hx0, by omega, HCS0.out, .inr HH.out, HBX3.out, HOW3.out, HCB3.out, HRE3.out⟩
      case round =>
        clear HBX3 HOW3 HCB3 HRE3 HCS0 HH HBX HOW HCU HCB HRE
        obtain ⟨x, p, s, rfl, hxv, hpk, hcs, hho, hbx, hown, hcb, hres⟩ := hrel
        have hown1 := hown
        have HBX := Lib.hid hbx
        have HOW := Lib.hid hown
        have HCS := Lib.hid hcs
        have HCB := Lib.hid hcb
        have HRE := Lib.hid hres
        have HHO := Lib.hid hho
        have hzx := hbx.lt
        have kb := hbx.cell
        have hxN : x < N.ends.length := by have := HN.out; omega
        obtain ⟨ve, vi, vn, hv, he, -, -⟩ := hown1.net (S := fun _ => True) (fun _ _ _ => trivial)
        obtain ⟨Ae, ce, rfl, -, -, hxe⟩ := he
        obtain ⟨be, offe, rfl, -, hce⟩ := hxe (by omega)
        obtain ⟨uk, huk, hrk⟩ := hce x hxN
        obtain ⟨Ak, ck, rfl, hnk, hmk, -⟩ := hrk
        unfold maxLen at hmk
        simp only [Value.agg.injEq, Array.mk.injEq, List.cons.injEq, Value.slice.injEq] at hv
        obtain ⟨⟨rfl, -, rfl⟩, -⟩ := hv
        have iv1 : (0 : Int) ≤ (x : Int) := by omega
        have iv2 : (x : Int) < (N.ends.length : Int) := by omega
        have hdg := HGR.out.last
        clear hxe hce hbx hown hown1 hcs hcb hres hho
        by_cases hd : 4 ≤ (gl N.ends x).length
        · have hx1 : x ≠ v - 1 := fun e => by
            subst e
            unfold dg at hdg
            omega
          have hv22 : 2 ≤ v := by omega
          have hop : Hope L p s (v - 1) gk := by rcases HHO.out with h | h; exact absurd h hx1; exact h
          have HOP := Lib.hid hop
          have hd' : (4 : Int) ≤ ((gl N.ends x).length : Int) := by omega
          clear hop hdg
          go_wp2_with (go_at_call 63; refine (pick_small _ gc cv L p s v HCS.out (by omega) (by omega) (by omega)).mono ?_; rintro e w4 ⟨x', s', rfl, hx0', hx1', hcs4, hg4, hdet⟩; obtain ⟨k', hk', hho'⟩ := HOP.out.next (s' := s') (x := x') (by omega : v - 1 < v) (by omega) hdet; obtain ⟨xn', rfl⟩ : ∃ xn' : Nat, x' = (xn' : Int) := ⟨x'.toNat, by omega⟩)
          have F1 := Lib.hid (HBX.out.grown hg4 (by simp; omega))
          have F2 := Lib.hid (HOW.out.grown hg4 (by omega))
          have F3 := Lib.hid (HCB.out.trans (CurB.of_grown hg4 (by have := HCB.out.size; omega)))
          have F4 := Lib.hid (HRE.out.grown hg4 (by simp; omega))
          have F5 := Lib.hid hcs4
          have F6 : Hid (xn' = v - 1 ∨ Hope L (p + 1) s' (v - 1) k') := Lib.hid (hho'.imp (fun h => by omega) id)
          clear hg4 hcs4 hdet hho' kb huk
          go_roundg k'
          case measure => exact hk'
          case rel => exact ⟨xn', p + 1, s', rfl, by omega, by omega, F5.out, F6.out, F1.out, F2.out, F3.out, F4.out⟩
        · have hd' : ((gl N.ends x).length : Int) < 4 := by omega
          have hvN : v < N.ends.length := by omega
          clear hdg hd
          go_wp2_with (go_at_call 122; refine (neJoin_any (S := fun _ => True) _ N x v _ (HOW.out.net (fun _ _ _ => trivial)) HSM.out hxN hvN).mono ?_; rintro e w5 ⟨v5, rfl, ho5, hb5⟩; obtain ⟨G0, d0, G1, d1, G2, d2, rfl⟩ := ho5.parts; have hbx5 := HBX.out.below hb5; have kb5 := hbx5.cell; have kf5 := hbx5.free)
          obtain ⟨f1', f2', f3', f4', f5'⟩ := boxStore (BO := w.heap.size + 1) HBX.out HRE.out (by omega) HCS.out.r HCB.out HF.out hgc (by omega) (by omega) hb5 ho5
          have hkg := HGR.out.next hvN hxv
          refine ⟨⟨v + 1, joinN N x v, G0, G1, G2, d0, d1, d2, by go_num, by omega, by omega, by have := HN.out; simpa [joinN, joinE_len] using this, hkg, f1', f2', f3'.mono ?_, f4', f5'⟩, by simp [intOf]; omega⟩
          omega
    · obtain rfl : v = xn + 1 := by omega
      have HDR := Lib.hid (HGR.out.d.mono (Nat.le_refl m) (by omega : 2 * (xn + 1) ≤ 80))
      have hwz : w.heap.size + 1 ≤ wr.heap.size := by omega
      have hnl : ¬ ((xn : Int) + 1 < (N.ends.length : Int)) := by have := HN.out; omega
      clear HGR
      go_wp2_with (go_at_call 123; refine (mixed_any wr gc cv L (A + 2 + (xn + 1 : Nat) * 562949953421312) (w.heap.size + 1) _ N HCU.out (by omega) (HF.out.mono (by omega)) (by omega) hwz HOW.out (HDR.out.small (by omega) (by omega)) HDR.out.sym).mono ?_; rintro e w6 ⟨v6, N6, rfl, ho6, hal6, hc6, hcb6⟩; obtain ⟨G0, d0, G1, d1, G2, d2, rfl⟩ := ho6.parts; obtain ⟨hr6, q1, q2, q3⟩ := resStore HRE.out HF.out hgc HCB.out ho6 hc6 hcb6; have HQ := Lib.hid (And.intro q1 (And.intro q2 q3)); have HAL := Lib.hid hal6; have kr := hr6.cell; have fr := hr6.free; have hfin := (set3_blk (x := .slice G0 N6.ends.length d0) (y := .slice G1 N6.ids.length d1) (z := .slice G2 N6.inputs.length d2) hr6).cell; clear ho6 hal6 hc6 hcb6 hr6 q1 q2 q3 kb)
      unfold set3 at hfin
      exact bodyPost_ret (v := .agg #[.slice G0 N6.ends.length d0, .slice G1 N6.ids.length d1, .slice G2 N6.inputs.length d2]) (by simp [results, Tryz.results117, go_sem, hfin]) rfl ⟨_, N6, rfl, HQ.out.1, HDR.out.alike HAL.out, HQ.out.2.1.mono (by omega), HQ.out.2.2⟩
end Go.Proofs.YtljjbhihllnnaaaGreat

namespace Go.Proofs.YtljjbhihllnnaaaGreat
open Go.RowKit

/-- all that lies below B stays -/
structure LowB (B : Nat) (w w' : World) : Prop where
  os : w'.os = w.os
  tape : w'.tape = w.tape
  output : w'.output = w.output
  size : w.heap.size ≤ w'.heap.size
  block : ∀ k, k < B → w'.heap[k]? = w.heap[k]?
section
variable {B gc L A : Nat} {cv : Value} {w w1 w2 : World}
theorem LowB.trans (h : LowB B w w1) (k : LowB B w1 w2) : LowB B w w2 :=
  ⟨k.os.trans h.os, k.tape.trans h.tape, k.output.trans h.output, Nat.le_trans h.size k.size, fun b hb => (k.block b hb).trans (h.block b hb)⟩
theorem LowB.of_grown {row : Option Nat} (h : w.grownBy w1 row) (hB : B ≤ w.heap.size) (hr : ∀ g, row = some g → B ≤ g) : LowB B w w1 :=
  ⟨h.os, h.tape, h.output, h.size, fun k hk => h.block k (by omega) (fun e => by have := hr k e.symm; omega)⟩
theorem LowB.of_below (h : Below w.heap.size w w1) (hB : B ≤ w.heap.size) : LowB B w w1 :=
  LowB.of_grown (grown_below (World.grownBy.refl w none) h) hB (fun g e => by cases e)
theorem LowB.set {p : Addr} (hp : B ≤ p.block) (u : Value) : LowB B w (w.setCell p u) :=
  ⟨rfl, rfl, rfl, by simp [World.setCell], fun k hk => Below.heap_setCell w p u k (by omega)⟩
theorem CurR.low (h : CurR w gc cv L A) (hl : LowB B w w1) (hf : FarV cv B) (hgc : gc < B) : CurR w1 gc cv L A := by
  obtain ⟨p, s, h1, h2, h3⟩ := h
  refine ⟨p, s, h1, (hl.block gc hgc).trans h2, ?_⟩
  obtain ⟨Ad, c, e, hL, hx⟩ := h3
  refine ⟨Ad, c, e, hL, fun hp0 => ?_⟩
  obtain ⟨b, off, hA, hne, hc⟩ := hx hp0
  refine ⟨b, off, hA, hne, fun j hj => ?_⟩
  obtain ⟨z, h1, h2, h3⟩ := hc j hj
  have hb : b < B := hf ⟨b, off, none⟩ L c (by rw [e, hA]) hp0
  exact ⟨z, h1, h2, (World.cell?_of_block (hl.block b hb)).trans h3⟩
theorem CurB.low (h : CurB B gc w w1) (hl : LowB B w1 w2) : CurB B gc w w2 :=
  ⟨hl.os.trans h.os, hl.tape.trans h.tape, hl.output.trans h.output, Nat.le_trans h.size hl.size, fun b hb hne => (hl.block b hb).trans (h.block b hb hne)⟩
end

def nilV : Value := .slice none 0 0

/-- the network N, its lists' heads x y z in the box g, in memory from B on; the cursor; the cells of the result -/
structure DS (w : World) (gc : Nat) (cv : Value) (L A B g r : Nat) (x y z : Value) (N : Net) (W : World) : Prop where
  bx : Blk W g 27 #[x, y, z]
  ow : OwnNt W B (.agg #[x, y, z]) N
  cu : CurR W gc cv L A
  cb : CurB w.heap.size gc w W
  re : Blk W r 27 #[.slice none 0 0, .slice none 0 0, .slice none 0 0]
/-- where they lie -/
structure DF (w : World) (gc : Nat) (cv : Value) (B g r : Nat) : Prop where
  gcl : gc < w.heap.size
  far : FarV cv w.heap.size
  bl : w.heap.size ≤ B
  gle : w.heap.size ≤ g
  rl : w.heap.size ≤ r
  ne : r ≠ g
section
variable {w W W' : World} {gc L A A' B g r : Nat} {cv x y z : Value} {N : Net}
theorem DS.wsz (h : DS w gc cv L A B g r x y z N W) : w.heap.size ≤ W.heap.size := h.cb.size
theorem DS.mono (h : DS w gc cv L A B g r x y z N W) (hA : A ≤ A') : DS w gc cv L A' B g r x y z N W := ⟨h.bx, h.ow, h.cu.mono hA, h.cb, h.re⟩
theorem DS.below (h : DS w gc cv L A B g r x y z N W) (hb : Below W.heap.size W W') : DS w gc cv L A B g r x y z N W' :=
  ⟨h.bx.below hb, h.ow.below hb, h.cu.keep hb, h.cb.trans (CurB.of_below hb h.wsz), h.re.below hb⟩
theorem DS.drew (h : DS w gc cv L A B g r x y z N W) : DS w gc cv L A B g r x y z N W.drew := h.below (Below.refl _ _).drew
theorem DS.alloc (h : DS w gc cv L A B g r x y z N W) (o : Obj) : DS w gc cv L A B g r x y z N (W.alloc o) := h.below ((Below.refl _ _).alloc (Nat.le_refl _) o)
theorem DS.grown (h : DS w gc cv L A B g r x y z N W) (hF : DF w gc cv B g r) (hg : W.grownBy W' (some gc)) (hc : CurR W' gc cv L A') : DS w gc cv L A' B g r x y z N W' :=
  ⟨h.bx.grown hg (by have := hF.gcl; have := hF.gle; simp; omega), h.ow.grown hg (by have := hF.gcl; have := hF.bl; omega), hc, h.cb.trans (CurB.of_grown hg h.wsz), h.re.grown hg (by have := hF.gcl; have := hF.rl; simp; omega)⟩
theorem DS.gcne (hF : DF w gc cv B g r) : gc ≠ g := by have := hF.gcl; have := hF.gle; omega
theorem DS.bsz (h : DS w gc cv L A B g r x y z N W) : g < W.heap.size := h.bx.lt
theorem netT_int : 3 ≠ 27 := by decide

/-- the box's second cell stored: new identifiers -/
theorem DS.setY (h : DS w gc cv L A B g r x y z N W) (hF : DF w gc cv B g r) {y' : Value} {ids' : List Int} (ho : OwnI W B y' ids') (ha : Apart y' z) :
    DS w gc cv L A B g r x y' z { N with ids := ids' } (W.setCell ⟨g, 1, none⟩ y') := by
  have hk : KeptBut 27 W (W.setCell ⟨g, 1, none⟩ y') := KeptBut.of_set (p := ⟨g, 1, none⟩) h.bx _
  have hl : LowB w.heap.size W (W.setCell ⟨g, 1, none⟩ y') := LowB.set (p := ⟨g, 1, none⟩) hF.gle _
  obtain ⟨ve, vi, vn, hv, k1, k2, k3, k4⟩ := h.ow
  simp only [Value.agg.injEq, Array.mk.injEq, List.cons.injEq, and_true] at hv
  obtain ⟨rfl, rfl, rfl⟩ := hv
  exact ⟨h.bx.put 1 _, ⟨_, _, _, rfl, k1.but hk (by decide) (by decide), ho.but hk (by decide), k3.but hk (by decide), ha⟩, h.cu.low hl hF.far hF.gcl, h.cb.low hl, h.re.far (p := ⟨g, 1, none⟩) hF.ne _⟩
/-- identifiers appended, and stored -/
theorem DS.appY {w2 : World} {c1 : Nat} {A1 : Option Addr} {y' : Value} {k : Int} (h : DS w gc cv L A B g r x (.slice A1 N.ids.length c1) z N W) (hF : DF w gc cv B g r) (ho : OwnI w2 B y' (N.ids ++ [k])) (hg : W.grownBy w2 (Value.ownBlock (.slice A1 N.ids.length c1))) (hl : Lies W (.slice A1 N.ids.length c1) y') :
    DS w gc cv L A B g r x y' z { N with ids := N.ids ++ [k] } (w2.setCell ⟨g, 1, none⟩ y') := by
  obtain ⟨ve, vi, vn, hv, k1, k2, k3, k4⟩ := h.ow
  simp only [Value.agg.injEq, Array.mk.injEq, List.cons.injEq, and_true] at hv
  obtain ⟨rfl, rfl, rfl⟩ := hv
  have hk : KeptBut 3 W w2 := KeptBut.of_grown hg (rowType k2)
  have hlo : LowB w.heap.size W w2 := LowB.of_grown hg h.wsz (fun q hq => Nat.le_trans hF.bl (k2.blk q hq).1)
  obtain ⟨b1, b2⟩ := k3.beside k4 hg hl
  have hbx := (hk g _ _ _ h.bx (by decide)).trans h.bx
  have hre := (hk r _ _ _ h.re (by decide)).trans h.re
  have hd : DS w gc cv L A B g r x (.slice A1 N.ids.length c1) z N w2 → True := fun _ => trivial
  have hk2 : KeptBut 27 w2 (w2.setCell ⟨g, 1, none⟩ y') := KeptBut.of_set (p := ⟨g, 1, none⟩) hbx _
  have hl2 : LowB w.heap.size w2 (w2.setCell ⟨g, 1, none⟩ y') := LowB.set (p := ⟨g, 1, none⟩) hF.gle _
  exact ⟨Blk.put hbx 1 _, ⟨_, _, _, rfl, (k1.but hk (by decide) (by decide)).but hk2 (by decide) (by decide), ho.but hk2 (by decide), b1.but hk2 (by decide), b2⟩,
    (h.cu.low hlo hF.far hF.gcl).low hl2 hF.far hF.gcl, (h.cb.low hlo).low hl2, Blk.far hre (p := ⟨g, 1, none⟩) hF.ne _⟩
/-- inputs appended, and stored -/
theorem DS.appZ {w2 : World} {c2 : Nat} {A2 : Option Addr} {z' : Value} {k : Int} (h : DS w gc cv L A B g r x y (.slice A2 N.inputs.length c2) N W) (hF : DF w gc cv B g r) (ho : OwnI w2 B z' (N.inputs ++ [k])) (hg : W.grownBy w2 (Value.ownBlock (.slice A2 N.inputs.length c2))) (hl : Lies W (.slice A2 N.inputs.length c2) z') :
    DS w gc cv L A B g r x y z' { N with inputs := N.inputs ++ [k] } (w2.setCell ⟨g, 2, none⟩ z') := by
  obtain ⟨ve, vi, vn, hv, k1, k2, k3, k4⟩ := h.ow
  simp only [Value.agg.injEq, Array.mk.injEq, List.cons.injEq, and_true] at hv
  obtain ⟨rfl, rfl, rfl⟩ := hv
  have hk : KeptBut 3 W w2 := KeptBut.of_grown hg (rowType k3)
  have hlo : LowB w.heap.size W w2 := LowB.of_grown hg h.wsz (fun q hq => Nat.le_trans hF.bl (k3.blk q hq).1)
  obtain ⟨b1, b2⟩ := k2.beside (Apart.symm k4) hg hl
  have hbx := (hk g _ _ _ h.bx (by decide)).trans h.bx
  have hre := (hk r _ _ _ h.re (by decide)).trans h.re
  have hk2 : KeptBut 27 w2 (w2.setCell ⟨g, 2, none⟩ z') := KeptBut.of_set (p := ⟨g, 2, none⟩) hbx _
  have hl2 : LowB w.heap.size w2 (w2.setCell ⟨g, 2, none⟩ z') := LowB.set (p := ⟨g, 2, none⟩) hF.gle _
  exact ⟨Blk.put hbx 2 _, ⟨_, _, _, rfl, (k1.but hk (by decide) (by decide)).but hk2 (by decide) (by decide), b1.but hk2 (by decide), ho.but hk2 (by decide), Apart.symm b2⟩,
    (h.cu.low hlo hF.far hF.gcl).low hl2 hF.far hF.gcl, (h.cb.low hlo).low hl2, Blk.far hre (p := ⟨g, 2, none⟩) hF.ne _⟩
/-- an input stored -/
theorem DS.putIn {g2 f2 j : Nat} (h : DS w gc cv L A B g r x y (.slice (some ⟨g2, 0, none⟩) N.inputs.length f2) N W) (hF : DF w gc cv B g r) (u : Int) :
    DS w gc cv L A B g r x y (.slice (some ⟨g2, 0, none⟩) N.inputs.length f2) { N with inputs := N.inputs.set j u } (W.setCell ⟨g2, j, none⟩ (.int .i64 u)) := by
  have hw := h.ow
  obtain ⟨ve, vi, vn, hv, k1, k2, k3, k4⟩ := hw
  simp only [Value.agg.injEq, Array.mk.injEq, List.cons.injEq, and_true] at hv
  obtain ⟨rfl, rfl, rfl⟩ := hv
  obtain ⟨cs, fr, hc⟩ := rowType k3 g2 rfl
  have hk : KeptBut 3 W (W.setCell ⟨g2, j, none⟩ (.int .i64 u)) := KeptBut.of_set (p := ⟨g2, j, none⟩) hc _
  have hl : LowB w.heap.size W (W.setCell ⟨g2, j, none⟩ (.int .i64 u)) := LowB.set (p := ⟨g2, j, none⟩) (Nat.le_trans hF.bl (k3.blk g2 rfl).1) _
  exact ⟨(hk g _ _ _ h.bx (by decide)).trans h.bx, h.ow.putIn u, h.cu.low hl hF.far hF.gcl, h.cb.low hl, (hk r _ _ _ h.re (by decide)).trans h.re⟩
/-- an identifier stored -/
theorem DS.putId {g1 f1 j : Nat} (h : DS w gc cv L A B g r x (.slice (some ⟨g1, 0, none⟩) N.ids.length f1) z N W) (hF : DF w gc cv B g r) (u : Int) :
    DS w gc cv L A B g r x (.slice (some ⟨g1, 0, none⟩) N.ids.length f1) z { N with ids := N.ids.set j u } (W.setCell ⟨g1, j, none⟩ (.int .i64 u)) := by
  obtain ⟨ve, vi, vn, hv, k1, k2, k3, k4⟩ := h.ow
  simp only [Value.agg.injEq, Array.mk.injEq, List.cons.injEq, and_true] at hv
  obtain ⟨rfl, rfl, rfl⟩ := hv
  obtain ⟨cs, fr, hc⟩ := rowType k2 g1 rfl
  have hk : KeptBut 3 W (W.setCell ⟨g1, j, none⟩ (.int .i64 u)) := KeptBut.of_set (p := ⟨g1, j, none⟩) hc _
  have hl : LowB w.heap.size W (W.setCell ⟨g1, j, none⟩ (.int .i64 u)) := LowB.set (p := ⟨g1, j, none⟩) (Nat.le_trans hF.bl (k2.blk g1 rfl).1) _
  exact ⟨(hk g _ _ _ h.bx (by decide)).trans h.bx, ⟨_, _, _, rfl, k1.but hk (by decide) (by decide), k2.put rfl u, k3.keepO fun b hb => Below.heap_setCell W _ _ b (fun e => k4 g1 rfl (by rw [e] at hb; exact hb)), k4⟩, h.cu.low hl hF.far hF.gcl, h.cb.low hl, (hk r _ _ _ h.re (by decide)).trans h.re⟩
theorem DS.parts (h : DS w gc cv L A B g r x y z N W) : OwnEs W B x N.ends ∧ OwnI W B y N.ids ∧ OwnI W B z N.inputs ∧ Apart y z := by
  obtain ⟨ve, vi, vn, hv, k1, k2, k3, k4⟩ := h.ow
  simp only [Value.agg.injEq, Array.mk.injEq, List.cons.injEq, and_true] at hv
  obtain ⟨rfl, rfl, rfl⟩ := hv
  exact ⟨k1, k2, k3, k4⟩
/-- whatever turns in the lists of ends and in their outer list alone -/
theorem DS.turnE {es : List (List (Int × Int))} (h : DS w gc cv L A B g r x y z N W) (hF : DF w gc cv B g r) (hk : KeptBut 38 W W') (hl : LowB w.heap.size W W') (he : OwnEs W' B x es) : DS w gc cv L A B g r x y z { N with ends := es } W' := by
  obtain ⟨k1, k2, k3, k4⟩ := h.parts
  exact ⟨(hk g _ _ _ h.bx (by decide)).trans h.bx, ⟨_, _, _, rfl, he, k2.but hk (by decide), k3.but hk (by decide), k4⟩, h.cu.low hl hF.far hF.gcl, h.cb.low hl, (hk r _ _ _ h.re (by decide)).trans h.re⟩
end

theorem pc_set1 {es : List (Int × Int)} {j : Nat} {u : Int} (h : j < es.length) : pc (es.set j (u, (gp es j).2)) = (pc es).set (j * 2) (.int .i64 u) := by
  induction es generalizing j with
  | nil => simp at h
  | cons e es ih =>
    have e1 : ∀ (p : Int × Int) (l : List (Int × Int)), pc (p :: l) = .int .i64 p.1 :: .int .i64 p.2 :: pc l := fun p l => by simp [pc]
    rcases j with _ | j
    · rw [List.set_cons_zero, e1, e1]; rfl
    · have hj : j < es.length := by simpa using h
      have := ih hj
      rw [List.set_cons_succ, e1, e1, show (j + 1) * 2 = j * 2 + 1 + 1 by omega]
      have e2 : gp (e :: es) (j + 1) = gp es j := by simp [gp]
      rw [e2, this]
      rfl
theorem pc_set2 {es : List (Int × Int)} {j : Nat} {u : Int} (h : j < es.length) : pc (es.set j ((gp es j).1, u)) = (pc es).set (j * 2 + 1) (.int .i64 u) := by
  induction es generalizing j with
  | nil => simp at h
  | cons e es ih =>
    have e1 : ∀ (p : Int × Int) (l : List (Int × Int)), pc (p :: l) = .int .i64 p.1 :: .int .i64 p.2 :: pc l := fun p l => by simp [pc]
    rcases j with _ | j
    · rw [List.set_cons_zero, e1, e1]; rfl
    · have hj : j < es.length := by simpa using h
      have := ih hj
      rw [List.set_cons_succ, e1, e1, show (j + 1) * 2 + 1 = j * 2 + 1 + 1 + 1 by omega]
      have e2 : gp (e :: es) (j + 1) = gp es j := by simp [gp]
      rw [e2, this]
      rfl
/-- one list of ends turned in its own block -/
theorem OwnEs.rowTurn {W : World} {B gE cap ga na ca a i : Nat} {ess : List (List (Int × Int))} {es' : List (Int × Int)} {us : Nat → Value} {u : Value} (hrow : W.ownsRow B 36 1 (.slice (some ⟨gE, 0, none⟩) ess.length cap) ess.length ((List.range ess.length).map us)) (hinn : ∀ i, i < ess.length → OwnE W B (us i) (gl ess i))
    (hdis : ∀ i j, i < ess.length → j < ess.length → i ≠ j → ∀ g, (us i).ownBlock = some g → (us j).ownBlock ≠ some g) (ha : a < ess.length) (hu : us a = .slice (some ⟨ga, 0, none⟩) na ca) (ho : OwnE (W.setCell ⟨ga, i, none⟩ u) B (us a) es') :
    OwnEs (W.setCell ⟨ga, i, none⟩ u) B (.slice (some ⟨gE, 0, none⟩) ess.length cap) (ess.set a es') ∧ KeptBut 38 W (W.setCell ⟨ga, i, none⟩ u) ∧ B ≤ ga := by
  have hoa := hinn a ha
  rw [hu] at hoa
  obtain ⟨cs, hcs⟩ := hoa.type ga rfl
  have kk : KeptBut 38 W (W.setCell ⟨ga, i, none⟩ u) := KeptBut.of_set (p := ⟨ga, i, none⟩) hcs _
  refine ⟨⟨us, ?_, fun j hj => ?_, by rw [List.length_set]; exact hdis⟩, kk, (hoa.lt ga rfl).1⟩
  · rw [List.length_set]
    refine ⟨hrow.1, ?_⟩
    rcases hrow.2 with h4 | ⟨q, cap', cur, h1, hB, hh, hr⟩
    · exact .inl h4
    · exact .inr ⟨q, cap', cur, h1, hB, (kk q _ _ _ hh (by decide)).trans hh, hr⟩
  · rw [List.length_set] at hj
    rw [gl_set ha]
    by_cases hja : j = a
    · subst hja
      rw [if_pos rfl]
      exact ho
    · rw [if_neg hja]
      refine (hinn j hj).keepB fun c hc => ?_
      have hne : c ≠ ga := fun e => hdis j a hj ha hja c hc (by rw [hu, e]; rfl)
      exact Below.heap_setCell _ _ _ c hne
theorem OwnE.put1 {w : World} {B g n cap j : Nat} {es : List (Int × Int)} {u : Int} (h : OwnE w B (.slice (some ⟨g, 0, none⟩) n cap) es) (hj : j < es.length) :
    OwnE (w.setCell ⟨g, j * 2, none⟩ (.int .i64 u)) B (.slice (some ⟨g, 0, none⟩) n cap) (es.set j (u, (gp es j).2)) := by
  obtain rfl := h.len
  unfold OwnE
  rw [List.length_set, pc_set1 hj]
  exact (World.ownsRow.stored h (j * 2) (.int .i64 u)).1
theorem OwnE.putB {w : World} {B g n cap j : Nat} {es : List (Int × Int)} {u : Int} (h : OwnE w B (.slice (some ⟨g, 0, none⟩) n cap) es) (hj : j < es.length) :
    OwnE (w.setCell ⟨g, j * 2 + 1, none⟩ (.int .i64 u)) B (.slice (some ⟨g, 0, none⟩) n cap) (es.set j ((gp es j).1, u)) := by
  obtain rfl := h.len
  unfold OwnE
  rw [List.length_set, pc_set2 hj]
  exact (World.ownsRow.stored h (j * 2 + 1) (.int .i64 u)).1
/-- a list of numbers that has just been written out -/
theorem IntsR.built (w : World) (t : TypeId) (xs : List Int) (hx : xs.length ≤ 100) : IntsR (w.alloc (.cells (xs.map (Value.int .i64)).toArray t)) (fun b => b = w.heap.size) (.slice (some ⟨w.heap.size, 0, none⟩) xs.length xs.length) xs :=
  ⟨_, xs.length, rfl, Nat.le_refl _, by unfold maxLen; omega, fun _ => ⟨w.heap.size, 0, rfl, rfl, fun j hj => by
    rw [Nat.zero_add, cell_of_row _ _ _ _ t (0, 0) (heap_alloc_new w _)]
    simp [gi, hj]⟩⟩
/-- the network handed back -/
theorem DS.done {w W : World} {gc L A B g r : Nat} {cv x y z : Value} {N : Net} (h : DS w gc cv L A B g r x y z N W) (hF : DF w gc cv B g r) :
    (∀ i, (set3 W r x y z).cell? ⟨r, i, none⟩ = (#[x, y, z] : Array Value)[i]?) ∧ OwnNt (set3 W r x y z) w.heap.size (.agg #[x, y, z]) N ∧ CurR (set3 W r x y z) gc cv L A ∧ CurB w.heap.size gc w (set3 W r x y z) := by
  have h1 := hF.gcl
  have h2 := hF.rl
  exact ⟨(set3_blk h.re).cell, (h.ow.but (set3_but h.re) (by decide) (by decide) (by decide)).mono hF.bl,
    ((h.cu.above hF.far hF.gcl (p := ⟨r, 0, none⟩) h2 x).above hF.far hF.gcl (p := ⟨r, 1, none⟩) h2 y).above hF.far hF.gcl (p := ⟨r, 2, none⟩) h2 z,
    ((h.cb.setCell (p := ⟨r, 0, none⟩) h2 x).setCell (p := ⟨r, 1, none⟩) h2 y).setCell (p := ⟨r, 2, none⟩) h2 z⟩
/-- a network of the call's own, made in w5, stored into the box -/
theorem DS.store {w W w5 : World} {gc L A g r : Nat} {cv x y z a b c : Value} {N : Net} (hbx : Blk W g 27 #[a, b, c]) (hres : Blk W r 27 #[.slice none 0 0, .slice none 0 0, .slice none 0 0]) (hne : r ≠ g) (hc : CurR W gc cv L A) (hcb : CurB w.heap.size gc w W) (hf : FarV cv w.heap.size) (hgc : gc < w.heap.size) (hg : w.heap.size ≤ g)
    (hb : Below W.heap.size W w5) (ho : OwnNt w5 W.heap.size (.agg #[x, y, z]) N) : DS w gc cv L A W.heap.size g r x y z N (set3 w5 g x y z) := by
  obtain ⟨p1, p2, p3, p4, p5⟩ := boxStore (BO := W.heap.size) hbx hres hne hc hcb hf hgc hg (Nat.le_refl _) hb ho
  exact ⟨p1, p2, p3, p4, p5⟩
/-- new ends, turned in two steps: in the lists, in the outer list -/
theorem DS.turnEE {w W W1 W' : World} {gc L A B g r : Nat} {cv x y z : Value} {N : Net} {es : List (List (Int × Int))} (h : DS w gc cv L A B g r x y z N W) (hF : DF w gc cv B g r) (hk : KeptBut 38 W W1) (hk2 : KeptBut 36 W1 W') (hl : LowB w.heap.size W W') (he : OwnEs W' B x es) :
    DS w gc cv L A B g r x y z { N with ends := es } W' := by
  obtain ⟨k1, k2, k3, k4⟩ := h.parts
  have hb1 := (hk g _ _ _ h.bx (by decide)).trans h.bx
  have hr1 := (hk r _ _ _ h.re (by decide)).trans h.re
  exact ⟨(hk2 g _ _ _ hb1 (by decide)).trans hb1, ⟨_, _, _, rfl, he, (k2.but hk (by decide)).but hk2 (by decide), (k3.but hk (by decide)).but hk2 (by decide), k4⟩, h.cu.low hl hF.far hF.gcl, h.cb.low hl, (hk2 r _ _ _ hr1 (by decide)).trans hr1⟩
/-- the outer list has grown, and is stored -/
theorem DS.appRow {w W w2 : World} {gc L A B g r : Nat} {cv x x' y z : Value} {N : Net} {es : List (List (Int × Int))} (h : DS w gc cv L A B g r x y z N W) (hF : DF w gc cv B g r) (hk : KeptBut 36 W w2) (hl : LowB w.heap.size W w2) (he : OwnEs w2 B x' es) :
    DS w gc cv L A B g r x' y z { N with ends := es } (w2.setCell ⟨g, 0, none⟩ x') := by
  obtain ⟨k1, k2, k3, k4⟩ := h.parts
  have hb1 := (hk g _ _ _ h.bx (by decide)).trans h.bx
  have hr1 := (hk r _ _ _ h.re (by decide)).trans h.re
  have hk2 : KeptBut 27 w2 (w2.setCell ⟨g, 0, none⟩ x') := KeptBut.of_set (p := ⟨g, 0, none⟩) hb1 _
  have hl2 : LowB w.heap.size w2 (w2.setCell ⟨g, 0, none⟩ x') := LowB.set (p := ⟨g, 0, none⟩) hF.gle _
  exact ⟨Blk.put hb1 0 _, ⟨_, _, _, rfl, he.but hk2 (by decide) (by decide), (k2.but hk (by decide)).but hk2 (by decide), (k3.but hk (by decide)).but hk2 (by decide), k4⟩, (h.cu.low hl hF.far hF.gcl).low hl2 hF.far hF.gcl, (h.cb.low hl).low hl2, Blk.far hr1 (p := ⟨g, 0, none⟩) hF.ne _⟩
theorem OwnI.built (w : World) (B : Nat) (xs : List Int) (hB : B ≤ w.heap.size) (hx : xs.length ≤ 100) : OwnI (w.alloc (.cells (xs.map (Value.int .i64)).toArray 3)) B (.slice (some ⟨w.heap.size, 0, none⟩) xs.length xs.length) xs :=
  ⟨by simp [ic], .inr ⟨w.heap.size, xs.length, _, rfl, hB, heap_alloc_new w _, Nat.le_refl _, by unfold maxLen; omega, by simp, by simp [ic, List.take_of_length_le]⟩⟩
theorem OwnI.apartNew {w : World} {B : Nat} {v : Value} {xs : List Int} (h : OwnI w B v xs) (n c : Nat) : Apart (.slice (some ⟨w.heap.size, 0, none⟩) n c) v := fun g h1 h2 => by
  cases h1
  have := (h.blk _ h2).2
  simp at this
/-- a drawn network stored into the box -/
theorem DS.storeC {w W W' : World} {gc L A A' B g r : Nat} {cv x y z x' y' z' : Value} {N N' : Net} (h : DS w gc cv L A B g r x y z N W) (hF : DF w gc cv B g r) (ho : OwnNt W' W.heap.size (.agg #[x', y', z']) N') (hc : CurR W' gc cv L A') (hcb : CurB W.heap.size gc W W') :
    Blk W' g 27 #[x, y, z] ∧ DS w gc cv L A' W.heap.size g r x' y' z' N' (set3 W' g x' y' z') ∧ DF w gc cv W.heap.size g r := by
  have hb' := h.bx.curB hcb h.bsz (Ne.symm (DS.gcne hF))
  have hr' := h.re.curB hcb h.re.lt (by have := hF.gcl; have := hF.rl; omega)
  refine ⟨hb', ⟨set3_blk hb', ho.but (set3_but hb') (by decide) (by decide) (by decide), ?_, ?_, (set3_block _ _ _ _ _ hF.ne).trans hr'⟩, ⟨hF.gcl, hF.far, h.wsz, hF.gle, hF.rl, hF.ne⟩⟩
  · exact ((hc.above hF.far hF.gcl (p := ⟨g, 0, none⟩) hF.gle x').above hF.far hF.gcl (p := ⟨g, 1, none⟩) hF.gle y').above hF.far hF.gcl (p := ⟨g, 2, none⟩) hF.gle z'
  · exact (((h.cb.trans (hcb.mono h.wsz)).setCell (p := ⟨g, 0, none⟩) hF.gle x').setCell (p := ⟨g, 1, none⟩) hF.gle y').setCell (p := ⟨g, 2, none⟩) hF.gle z'

/-- a network whose lists are short: all that is known of any drawn network -/
structure Tame (N : Net) : Prop where
  len : N.ends.length ≤ 64
  deg : ∀ a, dg N.ends a ≤ 600
  ids : N.ids.length ≤ 64
  ins : N.inputs.length ≤ 64
theorem Tame.small {N : Net} (h : Tame N) : Small N :=
  ⟨by have := h.len; omega, fun i _ => by have := h.deg i; unfold dg at this; omega, by have := h.ids; omega, by have := h.ins; omega⟩
theorem Drawn.tame {m d : Nat} {N : Net} (h : Drawn m d N) (hm : m ≤ 64) (hd : d ≤ 600) : Tame N :=
  ⟨by have := h.len; omega, fun a => by have := h.deg a; omega, by have := h.ids; omega, by have := h.ins; have := h.len; omega⟩
theorem Drawn.withIds {m d : Nat} {N N' : Net} (h : Drawn m d N) (hi : N'.ends = N.ends ∧ N'.inputs = N.inputs ∧ N'.ids.length = N.ends.length) : Drawn m d N' :=
  ⟨by rw [hi.1]; exact h.pos, by rw [hi.1]; exact h.len, by rw [hi.1]; exact h.sym, fun a => by rw [hi.1]; exact h.deg a, by rw [hi.2.2]; exact h.len, by rw [hi.2.1, hi.1]; exact h.ins⟩
theorem dg_set {ess : List (List (Int × Int))} {a b : Nat} {es : List (Int × Int)} (ha : a < ess.length) : dg (ess.set a es) b = if b = a then es.length else dg ess b := by
  unfold dg
  rw [gl_set ha]
  split <;> rfl
end Go.Proofs.YtljjbhihllnnaaaGreat

namespace Go.Proofs.YtljjbhihllnnaaaGreat
open Go.RowKit

theorem gl_out {ess : List (List (Int × Int))} {j : Nat} (h : ¬ j < ess.length) : gl ess j = [] := by
  unfold gl
  rw [List.getD_eq_getElem?_getD, List.getElem?_eq_none (by omega)]
  rfl
theorem gl_snoc {ess : List (List (Int × Int))} {e : List (Int × Int)} {j : Nat} : gl (ess ++ [e]) j = if j < ess.length then gl ess j else if j = ess.length then e else [] := by
  unfold gl
  simp only [List.getD_eq_getElem?_getD]
  rw [List.getElem?_append]
  by_cases h : j < ess.length
  · simp [h]
  · by_cases h2 : j = ess.length
    · subst h2; simp
    · simp only [h, h2, if_false]
      rw [List.getElem?_eq_none (by simp; omega)]
      rfl
theorem OwnEs.pushNil {w w2 : World} {B : Nat} {x' : Value} {ess : List (List (Int × Int))} {us : Nat → Value} (hi : ∀ i, i < ess.length → OwnE w B (us i) (gl ess i))
    (hd : ∀ i j, i < ess.length → j < ess.length → i ≠ j → ∀ g, (us i).ownBlock = some g → (us j).ownBlock ≠ some g)
    (h2 : w2.ownsRow B 36 1 x' (ess.length + 1) ((List.range ess.length).map us ++ [.slice none 0 0])) (hk : KeptBut 36 w w2) : OwnEs w2 B x' (ess ++ [[]]) := by
  have ln : (ess ++ [([] : List (Int × Int))]).length = ess.length + 1 := by simp
  have hus : (List.range (ess.length + 1)).map (fun j => if j < ess.length then us j else Value.slice none 0 0) = (List.range ess.length).map us ++ [.slice none 0 0] := by
    rw [List.range_succ, List.map_append]
    congr 1
    · apply List.map_congr_left
      intro a ha
      rw [if_pos (List.mem_range.1 ha)]
    · simp
  refine ⟨fun j => if j < ess.length then us j else .slice none 0 0, by rw [ln, hus]; exact h2, fun j hj => ?_, fun a b ha hb hne g hga => ?_⟩
  · rw [gl_snoc]
    by_cases h : j < ess.length
    · simp only [h, if_true]
      exact (hi j h).but hk (by decide)
    · simp only [h, if_false]
      have : (if j = ess.length then ([] : List (Int × Int)) else []) = [] := by split <;> rfl
      rw [this]
      exact OwnE.nil
  · rw [ln] at ha hb
    by_cases h : a < ess.length
    · simp only [h, if_true] at hga
      by_cases h3 : b < ess.length
      · simp only [h3, if_true]
        exact hd a b h h3 hne g hga
      · simp only [h3, if_false]
        intro e; cases e
    · simp only [h, if_false] at hga
      cases hga
theorem dg_snoc {ess : List (List (Int × Int))} {a : Nat} : dg (ess ++ [[]]) a = dg ess a := by
  unfold dg
  rw [gl_snoc]
  by_cases h : a < ess.length
  · simp [h]
  · rw [gl_out h]
    simp only [h, if_false]
    split <;> rfl
/-- an empty list added, and stored -/
theorem DS.pushRow {w W W1 w2 : World} {gc L A B g r n : Nat} {cv x x' y z : Value} {N : Net} (h : DS w gc cv L A B g r x y z N W) (hF : DF w gc cv B g r) (hn : N.ends.length = n) (hb : Below W.heap.size W W1)
    {us : Nat → Value} (hr0 : W.ownsRow B 36 1 x N.ends.length ((List.range N.ends.length).map us)) (hi : ∀ i, i < N.ends.length → OwnE W B (us i) (gl N.ends i))
    (hd : ∀ i j, i < N.ends.length → j < N.ends.length → i ≠ j → ∀ g, (us i).ownBlock = some g → (us j).ownBlock ≠ some g)
    (h2 : w2.ownsRow B 36 1 x' (n + 1) ((List.range n).map us ++ [.slice none 0 0])) (hg : W1.grownBy w2 x.ownBlock) :
    DS w gc cv L A B g r x' y z { N with ends := N.ends ++ [[]] } (w2.setCell ⟨g, 0, none⟩ x') := by
  subst hn
  have hk : KeptBut 36 W w2 := (KeptBut.of_below hb).trans (KeptBut.of_grown hg fun k hk' => by
    obtain ⟨cs, fr, h1⟩ := rowType hr0 k hk'
    exact ⟨cs, fr, (hb.block k (World.ownsRow.lt hr0 k hk').2).trans h1⟩)
  have hB : w.heap.size ≤ W.heap.size := h.wsz
  have hl : LowB w.heap.size W w2 := (LowB.of_below hb hB).trans (LowB.of_grown hg (by have := hb.size; omega) fun k hk' => by have := (World.ownsRow.lt hr0 k hk').1; have := hF.bl; omega)
  exact h.appRow hF hk hl (OwnEs.pushNil hi hd h2 hk)
/-- one list of the network grown, and stored at its place -/
theorem DS.growRow {w W W1 w2 : World} {gc L A B g r gE cap v n : Nat} {cv u' y z : Value} {N : Net} {es : List (Int × Int)} (hn : N.ends.length = n) (h : DS w gc cv L A B g r (.slice (some ⟨gE, 0, none⟩) n cap) y z N W) (hF : DF w gc cv B g r) (hb : Below W.heap.size W W1)
    {us : Nat → Value} (hr0 : W.ownsRow B 36 1 (.slice (some ⟨gE, 0, none⟩) n cap) N.ends.length ((List.range N.ends.length).map us)) (hi : ∀ i, i < N.ends.length → OwnE W B (us i) (gl N.ends i))
    (hd : ∀ i j, i < N.ends.length → j < N.ends.length → i ≠ j → ∀ g, (us i).ownBlock = some g → (us j).ownBlock ≠ some g) (hv : v < N.ends.length)
    (h2 : OwnE w2 B u' es) (hg : W1.grownBy w2 (us v).ownBlock) (hl0 : Lies W1 (us v) u') :
    DS w gc cv L A B g r (.slice (some ⟨gE, 0, none⟩) n cap) y z { N with ends := N.ends.set v es } (w2.setCell ⟨gE, v, none⟩ u') := by
  subst hn
  have hk : KeptBut 38 W w2 := (KeptBut.of_below hb).trans (KeptBut.of_grown hg fun k hk' => by
    obtain ⟨cs, h1⟩ := (hi v hv).type k hk'
    exact ⟨cs, _, (hb.block k ((hi v hv).lt k hk').2).trans h1⟩)
  have hB : w.heap.size ≤ W.heap.size := h.wsz
  have hge := World.ownsRow.lt hr0 gE rfl
  have hl : LowB w.heap.size W (w2.setCell ⟨gE, v, none⟩ u') := ((LowB.of_below hb hB).trans (LowB.of_grown hg (by have := hb.size; omega) fun k hk' => by have := ((hi v hv).lt k hk').1; have := hF.bl; omega)).trans (LowB.set (p := ⟨gE, v, none⟩) (by have := hF.bl; have := hge.1; simp only; omega) _)
  obtain ⟨cs, fr, h1⟩ := rowType hr0 gE rfl
  exact h.turnEE hF hk (KeptBut.of_set (p := ⟨gE, v, none⟩) ((hk gE _ _ _ h1 (by decide)).trans h1) _) hl (OwnEs.pushAt hr0 hi hd hv hb h2 hg hl0)
end Go.Proofs.YtljjbhihllnnaaaGreat

namespace Go.Proofs.YtljjbhihllnnaaaGreat
open Go.RowKit

set_option maxRecDepth 100000 in
set_option maxHeartbeats 4000000 in
theorem simple_any (w : World) (gc : Nat) (cv : Value) (L A m : Nat) (hc : CurR w gc cv L A) (hp : A + 144115188075855872 ≤ 4611686018427387900) (hf : FarV cv w.heap.size) (hm1 : 1 ≤ m) (hm2 : m ≤ 40) :
    Calls Tryz.prog 118 #[.pointer (some ⟨gc, 0, none⟩), .int .i64 m] w (RetDr w w.heap.size gc cv L (A + 144115188075855872) (Drawn m 200)) := by
  have hgc := hc.lt
  have HF := Lib.hid hf
  have HB0 := Lib.hid ((Below.refl w.heap.size w).alloc (Nat.le_refl _) (.cells #[.slice none 0 0, .slice none 0 0, .slice none 0 0] 27))
  have HR0 := Lib.hid (Blk.new w 27 #[.slice none 0 0, .slice none 0 0, .slice none 0 0])
  have HC0 := Lib.hid (hc.keep HB0.out)
  clear hc hf
  go_enter Tryz.func118, Tryz.ntmps118
  go_wp2_with fail
  have hza : (w.alloc (.cells #[.slice none 0 0, .slice none 0 0, .slice none 0 0] 27)).heap.size = w.heap.size + 1 := by simp
  generalize w.alloc (.cells #[.slice none 0 0, .slice none 0 0, .slice none 0 0] 27) = wa at *
  go_upto_region 2 with (go_at_call 117; refine (tree_any _ gc cv L A m HC0.out (by omega) (HF.out.mono (by omega)) hm1 hm2).mono ?_; rintro e w2 ⟨v2, N0, rfl, ho2, hd2, hc2, hcb2⟩; obtain ⟨E0, e0, E1, e1, E2, e2, rfl⟩ := ho2.parts)
  have hz2 := hcb2.size
  have hres2 := HR0.out.curB hcb2 (by omega) (by omega)
  have hcbw : CurB w.heap.size gc w w2 := (CurB.of_below HB0.out (Nat.le_refl _)).trans (hcb2.mono (by omega))
  have HX2 := Lib.hid (Blk.new w2 27 #[.slice E0 N0.ends.length e0, .slice E1 N0.ids.length e1, .slice E2 N0.inputs.length e2])
  have HO2 := Lib.hid ((ho2.below ((Below.refl w2.heap.size w2).alloc (Nat.le_refl _) (.cells #[.slice E0 N0.ends.length e0, .slice E1 N0.ids.length e1, .slice E2 N0.inputs.length e2] 27))).mono (B' := w.heap.size + 1) (by omega))
  have HC2 := Lib.hid (hc2.keep ((Below.refl w2.heap.size w2).alloc (Nat.le_refl _) (.cells #[.slice E0 N0.ends.length e0, .slice E1 N0.ids.length e1, .slice E2 N0.inputs.length e2] 27)))
  have HRE := Lib.hid (hres2.alloc (.cells #[.slice E0 N0.ends.length e0, .slice E1 N0.ids.length e1, .slice E2 N0.inputs.length e2] 27))
  have HCB := Lib.hid (hcbw.alloc (by omega) (.cells #[.slice E0 N0.ends.length e0, .slice E1 N0.ids.length e1, .slice E2 N0.inputs.length e2] 27))
  have HDR := Lib.hid hd2
  have hl1 := hd2.pos
  have hl2 := hd2.len
  obtain ⟨g5, hg5⟩ : ∃ g, g = w2.heap.size := ⟨_, rfl⟩
  have hg5b : w.heap.size + 1 ≤ g5 := by omega
  rw [← hg5] at HX2
  rw [← hg5]
  generalize w2.alloc (.cells #[.slice E0 N0.ends.length e0, .slice E1 N0.ids.length e1, .slice E2 N0.inputs.length e2] 27) = wb at *
  clear hres2 hcbw ho2 hd2 hc2 hcb2 hg5 hz2 HC0 HR0
  have kb0 := HX2.out.cell
  have hx5 := HX2.out.lt
  go_upto_region 3 with (go_at_call 63; refine (pick_any wb gc cv L (A + 72057594037927936) (1 + (N0.ends.length : Int)) HC2.out (by omega)).mono ?_; rintro e w3 ⟨x, rfl, hpx, hc3, hg3⟩; obtain ⟨kn, rfl⟩ : ∃ kn : Nat, x = (kn : Int) := ⟨x.toNat, by have := hpx.1; omega⟩; have hkn : kn ≤ N0.ends.length := by { have := hpx.2.2; omega }; clear hpx)
  have HX3 := Lib.hid (HX2.out.grown hg3 (by simp; omega))
  have HO3 := Lib.hid (HO2.out.grown hg3 (by omega))
  have HCB3 := Lib.hid (HCB.out.trans (CurB.of_grown hg3 (by have := HCB.out.size; omega)))
  have HRE3 := Lib.hid (HRE.out.grown hg3 (by simp; omega))
  have HC3 := Lib.hid hc3
  clear hg3 hc3 kb0 HX2 HO2 HC2 HRE HCB
  go_loopw [6] (fun x6 wr => ∃ (k : Nat) (N : Net) (F0 F1 F2 : Option Addr) (f0 f1 f2 : Nat), x6 = .int .i64 k ∧ k ≤ 40 ∧ Drawn m (80 + 2 * (40 - k)) N ∧ Blk wr g5 27 #[.slice F0 N.ends.length f0, .slice F1 N.ids.length f1, .slice F2 N.inputs.length f2] ∧
      OwnNt wr (w.heap.size + 1) (.agg #[.slice F0 N.ends.length f0, .slice F1 N.ids.length f1, .slice F2 N.inputs.length f2]) N ∧ CurR wr gc cv L (A + 72057594037927936 + 2 + 4 * (40 - k)) ∧ CurB w.heap.size gc w wr ∧ Blk wr w.heap.size 27 #[.slice none 0 0, .slice none 0 0, .slice none 0 0])
    (fun x6 _ => (intOf x6).toNat)
  case atStart => exact ⟨kn, N0, E0, E1, E2, e0, e1, e2, rfl, by omega, HDR.out.mono (Nat.le_refl m) (by omega), HX3.out, HO3.out, HC3.out.mono (by omega), HCB3.out, HRE3.out⟩
  case round =>
    clear HX3 HO3 HC3 HCB3 HRE3 HDR
    obtain ⟨k, N, F0, F1, F2, f0, f1, f2, rfl, hk, hdr, hbx, hown, hcur, hcb, hres⟩ := hrel
    obtain ⟨wr2, rfl⟩ : ∃ wr2, wr2 = wr := ⟨_, rfl⟩
    have HDR := Lib.hid hdr
    have HBX := Lib.hid hbx
    have HOW := Lib.hid hown
    have HCU := Lib.hid hcur
    have HCB := Lib.hid hcb
    have HRE := Lib.hid hres
    have hzr := hbx.lt
    have kb := hbx.cell
    have hp1 := hdr.pos
    have hp2 := hdr.len
    clear hdr hbx hown hcur hcb hres
    by_cases hlt : 0 < k
    · have hki : (0 : Int) < (k : Int) := by omega
      have HSM := Lib.hid (HDR.out.small (by omega) (by omega))
      go_upto_region 5 with fail
      go_cut [7, 8] (fun x7 x8 W => ∃ (a b : Nat), x7 = .int .i64 a ∧ x8 = .int .i64 b ∧ a < N.ends.length ∧ b < N.ends.length ∧ Blk W g5 27 #[.slice F0 N.ends.length f0, .slice F1 N.ids.length f1, .slice F2 N.inputs.length f2] ∧
        OwnNt W (w.heap.size + 1) (.agg #[.slice F0 N.ends.length f0, .slice F1 N.ids.length f1, .slice F2 N.inputs.length f2]) N ∧ CurR W gc cv L (A + 72057594037927936 + 2 + 4 * (40 - k) + 4) ∧ CurB w.heap.size gc w W ∧ Blk W w.heap.size 27 #[.slice none 0 0, .slice none 0 0, .slice none 0 0])
      case first =>
        have hkd : ∀ i, (wr2.drew).cell? ⟨g5, i, none⟩ = (#[.slice F0 N.ends.length f0, .slice F1 N.ids.length f1, .slice F2 N.inputs.length f2] : Array Value)[i]? := kb
        go_region_with (first
          | (go_at_call 63; refine (pick_any _ gc cv L (A + 72057594037927936 + 2 + 4 * (40 - k)) (N.ends.length : Int) (HCU.out.keep (Below.refl _ _).drew) (by omega)).mono ?_; rintro e w4 ⟨x, rfl, hpx, hc4, hg4⟩; have hbx4 := Blk.grown (w := wr2.drew) HBX.out hg4 (by simp; omega); have kb4 := hbx4.cell; obtain ⟨a, rfl⟩ : ∃ a : Nat, x = (a : Int) := ⟨x.toNat, by have := hpx.1; omega⟩)
          | (go_at_call 63; refine (pick_any _ gc cv L (A + 72057594037927936 + 2 + 4 * (40 - k) + 2) (N.ends.length : Int) hc4 (by omega)).mono ?_; rintro e w5 ⟨y, rfl, hpy, hc5, hg5'⟩; have hbx5 := Blk.grown hbx4 hg5' (by simp; omega); have kb5 := hbx5.cell; obtain ⟨b, rfl⟩ : ∃ b : Nat, y = (b : Int) := ⟨y.toNat, by have := hpy.1; omega⟩))
        all_goals
          have FW := Lib.hid (((HOW.out.below (Below.refl wr2.heap.size wr2).drew).grown hg4 (by omega)).grown hg5' (by omega))
          have FCB := Lib.hid (((HCB.out.trans (CurB.of_below (Below.refl wr2.heap.size wr2).drew (by omega))).trans (CurB.of_grown hg4 (by simp; omega))).trans (CurB.of_grown hg5' (by have := hg4.size; simp at this; omega)))
          have FR := Lib.hid ((Blk.grown (w := wr2.drew) HRE.out hg4 (by simp; omega)).grown hg5' (by simp; omega))
          have FX := Lib.hid hbx5
          have FC := Lib.hid hc5
          have ha : a < N.ends.length := by have := hpx.2.2; omega
          have hb : b < N.ends.length := by have := hpy.2.2; omega
          clear hpx hpy hbx4 hbx5 kb4 kb5 hg4 hg5' hc4 hc5 hkd kb
          go_wp2_with fail
          go_meet
          exact ⟨a, b, rfl, rfl, ha, hb, FX.out, FW.out, FC.out.mono (by omega), FCB.out, FR.out⟩
      case rest =>
      clear HBX HOW HCU HCB HRE kb hzr
      obtain ⟨a, b, rfl, rfl, ha, hb, hbx, hown, hcur, hcb, hres⟩ := hcut
      obtain ⟨W, hW⟩ : ∃ W, W = wc := ⟨_, rfl⟩
      rw [← hW] at hbx hown hcur hcb hres ⊢
      clear hW
      have HBX := Lib.hid hbx
      have HOW := Lib.hid hown
      have HCU := Lib.hid hcur
      have HCB := Lib.hid hcb
      have HRE := Lib.hid hres
      have hzr := hbx.lt
      have kb := hbx.cell
      clear hbx hown hcur hcb hres
      go_upto_region 6 with fail
      go_cut [60] (fun vb W' => ∃ b' : Bool, vb = .bool b' ∧ Below W.heap.size W W')
      case first =>
        have hown1 := HOW.out
        obtain ⟨ve, vi, vn, hv, he, -, -⟩ := hown1.net (S := fun _ => True) (fun _ _ _ => trivial)
        obtain ⟨Ae, ce, rfl, -, -, hxe⟩ := he
        obtain ⟨be, offe, rfl, -, hce⟩ := hxe (by omega)
        obtain ⟨ua, hua, hra⟩ := hce a ha
        obtain ⟨Aa, ca, rfl, -, hma, -⟩ := hra
        obtain ⟨ub, hub, hrb⟩ := hce b hb
        obtain ⟨Ab, cb, rfl, -, hmb, -⟩ := hrb
        unfold maxLen at hma hmb
        simp only [Value.agg.injEq, Array.mk.injEq, List.cons.injEq, Value.slice.injEq] at hv
        obtain ⟨⟨rfl, -, rfl⟩, -⟩ := hv
        have iva1 : (0 : Int) ≤ (a : Int) := by omega
        have iva2 : (a : Int) < (N.ends.length : Int) := by omega
        have ivb1 : (0 : Int) ≤ (b : Int) := by omega
        have ivb2 : (b : Int) < (N.ends.length : Int) := by omega
        have hbe := lt_of_cell hua
        clear hxe hce hown1
        by_cases hab : a = b
        · have hne : ((a : Int) != (b : Int)) = false := by rw [hab]; simp
          clear hab
          go_wp2_with fail
          go_meet
          exact ⟨false, rfl, Below.refl _ _⟩
        · have hne : ((a : Int) != (b : Int)) = true := by rw [bne_iff_ne]; omega
          clear hab
          obtain ⟨hs, hhs⟩ : ∃ hs, hs = hasB (nearL N a) (b : Int) := ⟨_, rfl⟩
          have CH := Lib.hid (fun (S : Nat → Prop) v W' (h : IntsR W' S v (nearL N a)) => l1Has_any v (nearL N a) (b : Int) W' h)
          rw [← hhs] at CH
          clear hhs
          by_cases hd1 : ((gl N.ends a).length : Int) < 5
          · by_cases hd2 : ((gl N.ends b).length : Int) < 5
            · cases hs
              all_goals
                go_wp2_with (first
                  | (go_at_call 164; refine (neNear_any (S := fun _ => True) _ N a _ (HOW.out.net (fun _ _ _ => trivial)) HSM.out ha).mono ?_; rintro e w5 ⟨v5, rfl, ho5, hb5⟩; have kb5 := (HBX.out.below hb5).cell; have hua5 := (hb5.cell (p := ⟨be, offe + a, none⟩) hbe).trans hua; have hub5 := (hb5.cell (p := ⟨be, offe + b, none⟩) hbe).trans hub; have HO5 := Lib.hid ho5; have HB5 := Lib.hid hb5; clear ho5 hb5 hua hub kb)
                  | (go_at_call 145; refine (CH.out _ _ _ HO5.out.ints).mono ?_; rintro e w6 ⟨rfl, rfl⟩))
                go_meet
                exact ⟨_, rfl, HB5.out⟩
            · cases hs
              all_goals
                go_wp2_with (first
                  | (go_at_call 164; refine (neNear_any (S := fun _ => True) _ N a _ (HOW.out.net (fun _ _ _ => trivial)) HSM.out ha).mono ?_; rintro e w5 ⟨v5, rfl, ho5, hb5⟩; have kb5 := (HBX.out.below hb5).cell; have hua5 := (hb5.cell (p := ⟨be, offe + a, none⟩) hbe).trans hua; have hub5 := (hb5.cell (p := ⟨be, offe + b, none⟩) hbe).trans hub; have HO5 := Lib.hid ho5; have HB5 := Lib.hid hb5; clear ho5 hb5 hua hub kb)
                  | (go_at_call 145; refine (CH.out _ _ _ HO5.out.ints).mono ?_; rintro e w6 ⟨rfl, rfl⟩))
                go_meet
                exact ⟨_, rfl, HB5.out⟩
          · cases hs
            all_goals
              go_wp2_with (first
                | (go_at_call 164; refine (neNear_any (S := fun _ => True) _ N a _ (HOW.out.net (fun _ _ _ => trivial)) HSM.out ha).mono ?_; rintro e w5 ⟨v5, rfl, ho5, hb5⟩; have kb5 := (HBX.out.below hb5).cell; have hua5 := (hb5.cell (p := ⟨be, offe + a, none⟩) hbe).trans hua; have hub5 := (hb5.cell (p := ⟨be, offe + b, none⟩) hbe).trans hub; have HO5 := Lib.hid ho5; have HB5 := Lib.hid hb5; clear ho5 hb5 hua hub kb)
                | (go_at_call 145; refine (CH.out _ _ _ HO5.out.ints).mono ?_; rintro e w6 ⟨rfl, rfl⟩))
              go_meet
              exact ⟨_, rfl, HB5.out⟩
      case rest =>
      obtain ⟨b', rfl, hbw⟩ := hcut
      obtain ⟨V, hV⟩ : ∃ V, V = wc := ⟨_, rfl⟩
      rw [← hV] at hbw ⊢
      clear hV
      have HBX6 := Lib.hid (HBX.out.below hbw)
      have HOW6 := Lib.hid (HOW.out.below hbw)
      have HCU6 := Lib.hid (HCU.out.keep hbw)
      have HCB6 := Lib.hid (HCB.out.trans (CurB.of_below hbw (by omega)))
      have HRE6 := Lib.hid (HRE.out.below hbw)
      have hzr6 := HBX6.out.lt
      have kb6 := HBX6.out.cell
      clear HBX HOW HCU HCB HRE kb hbw
      cases b' with
      | false =>
        go_wp2_with fail
        refine ⟨⟨k - 1, N, F0, F1, F2, f0, f1, f2, by simp only [Value.int.injEq, true_and]; omega, by omega, HDR.out.mono (Nat.le_refl m) (by omega), HBX6.out, HOW6.out, HCU6.out.mono (by omega), HCB6.out, HRE6.out⟩, ?_⟩
        simp [intOf]
        omega
      | true =>
        go_wp2_with (go_at_call 122; refine (neJoin_any (S := fun _ => True) _ N a b _ (HOW6.out.net (fun _ _ _ => trivial)) HSM.out ha hb).mono ?_; rintro e w7 ⟨v7, rfl, ho7, hb7⟩; obtain ⟨G0, d0, G1, d1, G2, d2, rfl⟩ := ho7.parts; have hbx7 := HBX6.out.below hb7; have kb7 := hbx7.cell; have kf7 := hbx7.free)
        obtain ⟨p1, p2, p3, p4, p5⟩ := boxStore (BO := w.heap.size + 1) HBX6.out HRE6.out (by omega) HCU6.out HCB6.out HF.out hgc (by omega) (by omega) hb7 ho7
        refine ⟨⟨k - 1, joinN N a b, G0, G1, G2, d0, d1, d2, by simp only [Value.int.injEq, true_and]; omega, by omega, (HDR.out.join ha hb).mono (Nat.le_refl m) (by omega), p1, p2, p3.mono (by omega), p4, p5⟩, ?_⟩
        simp [intOf]
        omega
    · obtain rfl : k = 0 := by omega
      have HDR2 := Lib.hid (HDR.out.mono (Nat.le_refl m) (by omega : 80 + 2 * (40 - 0) ≤ 200))
      have hwz : w.heap.size + 1 ≤ wr2.heap.size := by omega
      clear HDR
      go_wp2_with (go_at_call 123; refine (mixed_any wr2 gc cv L (A + 72057594037927936 + 2 + 4 * (40 - 0)) (w.heap.size + 1) _ N HCU.out (by omega) (HF.out.mono (by omega)) (by omega) hwz HOW.out (HDR2.out.small (by omega) (by omega)) HDR2.out.sym).mono ?_; rintro e w6 ⟨v6, N6, rfl, ho6, hal6, hc6, hcb6⟩; obtain ⟨G0, d0, G1, d1, G2, d2, rfl⟩ := ho6.parts; obtain ⟨hr6, q1, q2, q3⟩ := resStore HRE.out HF.out hgc HCB.out ho6 hc6 hcb6; have HQ := Lib.hid (And.intro q1 (And.intro q2 q3)); have HAL := Lib.hid hal6; have kr := hr6.cell; have fr := hr6.free; have hfin := (set3_blk (x := .slice G0 N6.ends.length d0) (y := .slice G1 N6.ids.length d1) (z := .slice G2 N6.inputs.length d2) hr6).cell; clear ho6 hal6 hc6 hcb6 hr6 q1 q2 q3 kb)
      unfold set3 at hfin
      exact bodyPost_ret (v := .agg #[.slice G0 N6.ends.length d0, .slice G1 N6.ids.length d1, .slice G2 N6.inputs.length d2]) (by simp [results, Tryz.results118, go_sem, hfin]) rfl ⟨_, N6, rfl, HQ.out.1, HDR2.out.alike HAL.out, HQ.out.2.1.mono (by omega), HQ.out.2.2⟩
end Go.Proofs.YtljjbhihllnnaaaGreat

namespace Go.Proofs.YtljjbhihllnnaaaGreat
open Go.RowKit

/-- a code: a slice of bytes -/
def CodeR (w : World) (cv : Value) (L : Nat) : Prop :=
  ∃ A c, cv = .slice A L c ∧ L ≤ 1048576 ∧ (0 < L → ∃ b off, A = some ⟨b, off, none⟩ ∧ ∀ j, j < L → ∃ z : Int, 0 ≤ z ∧ z ≤ 255 ∧ w.cell? ⟨b, off + j, none⟩ = some (.int .u8 z))
section
variable {w w' w1 : World} {cv : Value} {L gc B : Nat}
theorem CodeR.far (h : CodeR w cv L) : FarV cv w.heap.size := by
  obtain ⟨A, c, rfl, -, hx⟩ := h
  intro ad n c' e hn
  simp only [Value.slice.injEq] at e
  obtain ⟨rfl, rfl, rfl⟩ := e
  obtain ⟨b, off, e2, hc⟩ := hx hn
  obtain ⟨z, -, -, h3⟩ := hc 0 hn
  simp only [Option.some.injEq] at e2
  subst e2
  exact lt_of_cell h3
theorem CodeR.below (h : CodeR w cv L) (hb : Below w.heap.size w w') : CodeR w' cv L := by
  obtain ⟨A, c, rfl, hL, hx⟩ := h
  refine ⟨A, c, rfl, hL, fun hp => ?_⟩
  obtain ⟨b, off, e2, hc⟩ := hx hp
  refine ⟨b, off, e2, fun j hj => ?_⟩
  obtain ⟨z, h1, h2, h3⟩ := hc j hj
  exact ⟨z, h1, h2, (World.cell?_of_block (hb.block b (lt_of_cell h3))).trans h3⟩
/-- the cursor's start -/
theorem CodeR.cur (h : CodeR w cv L) : CurR (w.alloc (.cells #[cv, .int .i64 0, .int .u64 0] 105)) w.heap.size cv L 0 := by
  refine ⟨0, 0, Nat.le_refl _, Blk.new w _ _, ?_⟩
  have hb : Below w.heap.size w (w.alloc (.cells #[cv, .int .i64 0, .int .u64 0] 105)) := (Below.refl _ _).alloc (Nat.le_refl _) _
  obtain ⟨A, c, rfl, hL, hx⟩ := h
  refine ⟨A, c, rfl, hL, fun hp => ?_⟩
  obtain ⟨b, off, e2, hc⟩ := hx hp
  refine ⟨b, off, e2, ?_, fun j hj => ?_⟩
  · obtain ⟨z, -, -, h3⟩ := hc 0 hp
    have := lt_of_cell h3
    omega
  · obtain ⟨z, h1, h2, h3⟩ := hc j hj
    exact ⟨z, h1, h2, (World.cell?_of_block (hb.block b (lt_of_cell h3))).trans h3⟩
theorem CurB.below0 (h : CurB B gc w w1) (hB : B ≤ gc) : Below B w w1 :=
  ⟨h.os, h.tape, h.output, h.size, fun k hk => h.block k hk (by omega)⟩
end
/-- the network N in the box g, its lists' heads x y z, in memory from B on -/
structure NB (W : World) (B g : Nat) (x y z : Value) (N : Net) : Prop where
  bx : Blk W g 27 #[x, y, z]
  ow : OwnNt W B (.agg #[x, y, z]) N
section
variable {w W W' : World} {B g gc r : Nat} {x y z a b c : Value} {N : Net}
theorem NB.below (h : NB W B g x y z N) (hb : Below W.heap.size W W') : NB W' B g x y z N := ⟨h.bx.below hb, h.ow.below hb⟩
theorem NB.drew (h : NB W B g x y z N) : NB W.drew B g x y z N := h.below (Below.refl _ _).drew
theorem NB.alloc (h : NB W B g x y z N) (o : Obj) : NB (W.alloc o) B g x y z N := h.below ((Below.refl _ _).alloc (Nat.le_refl _) o)
theorem NB.grown (h : NB W B g x y z N) (hg : W.grownBy W' (some gc)) (h1 : gc < B) (h2 : g ≠ gc) : NB W' B g x y z N := ⟨h.bx.grown hg (by simpa using h2), h.ow.grown hg h1⟩
theorem NB.cur (h : NB W B g x y z N) (hb : CurB W.heap.size gc W W') (h1 : gc < B) (h2 : g ≠ gc) : NB W' B g x y z N := h.grown hb.to_grown h1 h2
theorem NB.made (ho : OwnNt W B (.agg #[x, y, z]) N) : NB (W.alloc (.cells #[x, y, z] 27)) B W.heap.size x y z N := ⟨Blk.new W _ _, ho.below ((Below.refl _ _).alloc (Nat.le_refl _) _)⟩
theorem belowC (h : Below w.heap.size w W) (hg : W.grownBy W' (some gc)) (h1 : w.heap.size ≤ gc) : Below w.heap.size w W' :=
  h.grown hg h.size fun k hk => by cases hk; exact h1
theorem res3 (h : Blk W r 27 #[a, b, c]) : (W.setCell ⟨r, 0, none⟩ x).cell? ⟨r, 0, none⟩ = some x ∧ ((W.setCell ⟨r, 0, none⟩ x).setCell ⟨r, 1, none⟩ y).cell? ⟨r, 1, none⟩ = some y ∧ (((W.setCell ⟨r, 0, none⟩ x).setCell ⟨r, 1, none⟩ y).setCell ⟨r, 2, none⟩ z).cell? ⟨r, 2, none⟩ = some z :=
  ⟨(h.put 0 x).cell 0, ((h.put 0 x).put 1 y).cell 1, (((h.put 0 x).put 1 y).put 2 z).cell 2⟩
/-- a network stored into the cell of a result -/
theorem resStoreT (hres : Blk W r 27 #[a, b, c]) (hr : w.heap.size ≤ r) (hbel : Below w.heap.size w W) (ho : OwnNt W B (.agg #[x, y, z]) N) (hB : w.heap.size ≤ B) :
    Blk (set3 W r x y z) r 27 #[x, y, z] ∧ OwnNt (set3 W r x y z) w.heap.size (.agg #[x, y, z]) N ∧ Below w.heap.size w (set3 W r x y z) :=
  ⟨set3_blk hres, (ho.mono hB).but (set3_but hres) (by decide) (by decide) (by decide), set3_below hbel hr x y z⟩
/-- two networks stored into the cells of two results -/
theorem resStore2 {r' B' : Nat} {x' y' z' a' b' c' : Value} {N' : Net} (h0 : Blk W r 27 #[a, b, c]) (h1 : Blk W r' 27 #[a', b', c']) (hne : r' ≠ r) (hr : w.heap.size ≤ r) (hr' : w.heap.size ≤ r') (hbel : Below w.heap.size w W)
    (ho : OwnNt W B (.agg #[x, y, z]) N) (hB : w.heap.size ≤ B) (ho' : OwnNt W B' (.agg #[x', y', z']) N') (hB' : w.heap.size ≤ B') :
    OwnNt (set3 (set3 W r x y z) r' x' y' z') w.heap.size (.agg #[x, y, z]) N ∧ OwnNt (set3 (set3 W r x y z) r' x' y' z') w.heap.size (.agg #[x', y', z']) N' ∧ Below w.heap.size w (set3 (set3 W r x y z) r' x' y' z') ∧
      Blk (set3 W r x y z) r' 27 #[a', b', c'] ∧ Blk (set3 (set3 W r x y z) r' x' y' z') r 27 #[x, y, z] ∧ Blk (set3 (set3 W r x y z) r' x' y' z') r' 27 #[x', y', z'] := by
  have h2 : Blk (set3 W r x y z) r' 27 #[a', b', c'] := (set3_block _ _ _ _ _ hne).trans h1
  exact ⟨((ho.mono hB).but (set3_but h0) (by decide) (by decide) (by decide)).but (set3_but h2) (by decide) (by decide) (by decide), ((ho'.mono hB').but (set3_but h0) (by decide) (by decide) (by decide)).but (set3_but h2) (by decide) (by decide) (by decide),
    set3_below (set3_below hbel hr x y z) hr' x' y' z', h2, (set3_block _ _ _ _ _ (Ne.symm hne)).trans (set3_blk h0), set3_blk h2⟩
end
end Go.Proofs.YtljjbhihllnnaaaGreat

namespace Go.Proofs.YtljjbhihllnnaaaGreat
open Go.RowKit

/-- a slice of bytes -/
def BytR (w : World) (cv : Value) (L : Nat) : Prop :=
  ∃ A c, cv = .slice A L c ∧ L ≤ 9223372036854775807 ∧ (0 < L → ∃ b off, A = some ⟨b, off, none⟩ ∧ ∀ j, j < L → ∃ z : Int, 0 ≤ z ∧ z ≤ 255 ∧ w.cell? ⟨b, off + j, none⟩ = some (.int .u8 z))
theorem BytR.code {w : World} {cv : Value} {L : Nat} (h : BytR w cv L) (hL : L ≤ 1048576) : CodeR w cv L := by
  obtain ⟨A, c, h1, -, h2⟩ := h
  exact ⟨A, c, h1, hL, h2⟩
end Go.Proofs.YtljjbhihllnnaaaGreat

namespace Go.Proofs.YtljjbhihllnnaaaGreat
open Go.RowKit

/-- a network, and two numbers -/
def RetD3 (w : World) (e : Ending) (w' : World) : Prop :=
  ∃ (v : Value) (N : Net) (x y : Int), e = .returned (.tuple #[v, .int .i64 x, .int .i64 y]) ∧ OwnNt w' w.heap.size v N ∧ Tame N ∧ Below w.heap.size w w'
end Go.Proofs.YtljjbhihllnnaaaGreat

namespace Go.Proofs.YtljjbhihllnnaaaGreat
open Go.RowKit

section
variable {W W1 W' w2 : World} {B g gE cap v n : Nat} {x y z u' : Value} {N : Net} {es : List (Int × Int)}
theorem NB.parts (h : NB W B g x y z N) : OwnEs W B x N.ends ∧ OwnI W B y N.ids ∧ OwnI W B z N.inputs ∧ Apart y z := by
  obtain ⟨a, b, c, e, h1, h2, h3, h4⟩ := h.ow
  simp only [Value.agg.injEq, Array.mk.injEq, List.cons.injEq, and_true] at e
  obtain ⟨rfl, rfl, rfl⟩ := e
  exact ⟨h1, h2, h3, h4⟩
theorem NB.turn {es' : List (List (Int × Int))} (h : NB W B g x y z N) (hk : KeptBut 38 W W1) (hk2 : KeptBut 36 W1 W') (he : OwnEs W' B x es') : NB W' B g x y z { N with ends := es' } := by
  obtain ⟨k1, k2, k3, k4⟩ := h.parts
  have hb1 := (hk g _ _ _ h.bx (by decide)).trans h.bx
  exact ⟨(hk2 g _ _ _ hb1 (by decide)).trans hb1, ⟨_, _, _, rfl, he, (k2.but hk (by decide)).but hk2 (by decide), (k3.but hk (by decide)).but hk2 (by decide), k4⟩⟩
/-- one list grown, and stored at its place -/
theorem NB.growRow (hn : N.ends.length = n) (h : NB W B g (.slice (some ⟨gE, 0, none⟩) n cap) y z N) (hB : B ≤ W.heap.size) (hb : Below W.heap.size W W1)
    {us : Nat → Value} (hr0 : W.ownsRow B 36 1 (.slice (some ⟨gE, 0, none⟩) n cap) N.ends.length ((List.range N.ends.length).map us)) (hi : ∀ i, i < N.ends.length → OwnE W B (us i) (gl N.ends i))
    (hd : ∀ i j, i < N.ends.length → j < N.ends.length → i ≠ j → ∀ g, (us i).ownBlock = some g → (us j).ownBlock ≠ some g) (hv : v < N.ends.length)
    (h2 : OwnE w2 B u' es) (hg : W1.grownBy w2 (us v).ownBlock) (hl0 : Lies W1 (us v) u') :
    NB (w2.setCell ⟨gE, v, none⟩ u') B g (.slice (some ⟨gE, 0, none⟩) n cap) y z { N with ends := N.ends.set v es } ∧ LowB B W (w2.setCell ⟨gE, v, none⟩ u') := by
  subst hn
  have hk : KeptBut 38 W w2 := (KeptBut.of_below hb).trans (KeptBut.of_grown hg fun k hk' => by
    obtain ⟨cs, h1⟩ := (hi v hv).type k hk'
    exact ⟨cs, _, (hb.block k ((hi v hv).lt k hk').2).trans h1⟩)
  have hge := World.ownsRow.lt hr0 gE rfl
  have hl : LowB B W (w2.setCell ⟨gE, v, none⟩ u') := ((LowB.of_below hb hB).trans (LowB.of_grown hg (by have := hb.size; omega) fun k hk' => ((hi v hv).lt k hk').1)).trans (LowB.set (p := ⟨gE, v, none⟩) hge.1 _)
  obtain ⟨cs, fr, h1⟩ := rowType hr0 gE rfl
  exact ⟨h.turn hk (KeptBut.of_set (p := ⟨gE, v, none⟩) ((hk gE _ _ _ h1 (by decide)).trans h1) _) (OwnEs.pushAt hr0 hi hd hv hb h2 hg hl0), hl⟩
/-- one pair stored -/
theorem NB.put2 {ga na ca j : Nat} {p q : Int} (hn : N.ends.length = n) (h : NB W B g (.slice (some ⟨gE, 0, none⟩) n cap) y z N)
    {us : Nat → Value} (hr0 : W.ownsRow B 36 1 (.slice (some ⟨gE, 0, none⟩) n cap) N.ends.length ((List.range N.ends.length).map us)) (hi : ∀ i, i < N.ends.length → OwnE W B (us i) (gl N.ends i))
    (hd : ∀ i j, i < N.ends.length → j < N.ends.length → i ≠ j → ∀ g, (us i).ownBlock = some g → (us j).ownBlock ≠ some g) (hv : v < N.ends.length) (hj : j < dg N.ends v) (hu : us v = .slice (some ⟨ga, 0, none⟩) na ca) :
    NB ((W.setCell ⟨ga, j * 2, none⟩ (.int .i64 p)).setCell ⟨ga, j * 2 + 1, none⟩ (.int .i64 q)) B g (.slice (some ⟨gE, 0, none⟩) n cap) y z { N with ends := set2 N.ends v j (p, q) } ∧ LowB B W ((W.setCell ⟨ga, j * 2, none⟩ (.int .i64 p)).setCell ⟨ga, j * 2 + 1, none⟩ (.int .i64 q)) := by
  subst hn
  obtain ⟨k1, k2, k3, k4⟩ := h.parts
  have hz : B ≤ ga := by
    have := hi v hv
    rw [hu] at this
    exact (this.lt ga rfl).1
  have hlow : LowB B W ((W.setCell ⟨ga, j * 2, none⟩ (.int .i64 p)).setCell ⟨ga, j * 2 + 1, none⟩ (.int .i64 q)) := (LowB.set (p := ⟨ga, j * 2, none⟩) hz _).trans (LowB.set (p := ⟨ga, j * 2 + 1, none⟩) hz _)
  refine ⟨?_, hlow⟩
  obtain ⟨A1, c1, rfl⟩ := k2.shape
  obtain ⟨A2, c2, rfl⟩ := k3.shape
  have hin : InBx W B g gE cap A1 A2 c1 c2 N.ends N.ids N.inputs us := ⟨hr0, hi, hd, k2, k3, h.bx⟩
  have ho := hin.store (x := p) (y := q) hv hj hu
  have hb := ho.hbox
  have he := ho.es
  rw [set2_len] at hb he
  exact ⟨hb, ⟨_, _, _, rfl, he, ho.hids, ho.hins, k4⟩⟩
end
theorem belowLow {w W W' : World} {B : Nat} (h : Below w.heap.size w W) (hl : LowB B W W') (hB : w.heap.size ≤ B) : Below w.heap.size w W' :=
  ⟨hl.os.trans h.os, hl.tape.trans h.tape, hl.output.trans h.output, Nat.le_trans h.size hl.size, fun k hk => (hl.block k (by omega)).trans (h.block k hk)⟩
/-- joined as the program joins -/
theorem join_steps {ess : List (List (Int × Int))} {v x : Nat} (hv : v < ess.length) (hx : x < ess.length) :
    set2 ((ess.set v (gl ess v ++ [((0 : Int), (0 : Int))])).set x (gl (ess.set v (gl ess v ++ [((0 : Int), (0 : Int))])) x ++ [((v : Int), (dg ess v : Int))])) v (dg ess v) ((x : Int), ((gl (ess.set v (gl ess v ++ [((0 : Int), (0 : Int))])) x).length : Int)) = joinE ess v x := by
  have hv1 : v < (ess.set v (gl ess v ++ [((0 : Int), (0 : Int))])).length := by rw [List.length_set]; exact hv
  have hx1 : x < (ess.set v (gl ess v ++ [((0 : Int), (0 : Int))])).length := by rw [List.length_set]; exact hx
  have hg1 : ∀ a, gl (ess.set v (gl ess v ++ [((0 : Int), (0 : Int))])) a = if a = v then gl ess v ++ [((0 : Int), (0 : Int))] else gl ess a := fun a => gl_set hv
  obtain ⟨e1, he1⟩ : ∃ e1, e1 = ess.set v (gl ess v ++ [((0 : Int), (0 : Int))]) := ⟨_, rfl⟩
  rw [← he1] at hv1 hx1 hg1 ⊢
  apply List.ext_getElem
  · rw [set2_len, joinE_len, List.length_set, he1, List.length_set]
  intro a ha hb
  rw [joinE_len] at hb
  have e2 : ∀ (l : List (List (Int × Int))) (h : a < l.length), l[a] = gl l a := fun l h => by unfold gl; rw [List.getD_eq_getElem?_getD, List.getElem?_eq_getElem h]; rfl
  rw [e2, e2, joinE_gl hv hx]
  unfold set2
  rw [gl_set (by rw [List.length_set]; exact hv1), gl_set hx1, gl_set hx1, hg1, hg1, hg1]
  by_cases hav : a = v
  · subst hav
    by_cases hax : a = x
    · subst hax
      simp only [if_true]
      unfold dg
      simp
    · have hxa : ¬ x = a := fun e => hax e.symm
      simp only [hax, hxa, if_true, if_false]
      unfold dg
      simp
  · by_cases hax : a = x
    · subst hax
      have hva : ¬ v = a := fun e => hav e.symm
      simp [hav]
    · simp [hav, hax]
end Go.Proofs.YtljjbhihllnnaaaGreat

namespace Go.Proofs.YtljjbhihllnnaaaGreat
open Go.RowKit

set_option maxRecDepth 100000 in
set_option maxHeartbeats 1000000 in
theorem numberOf_any (v : Value) (L : Nat) (w : World) (h : CodeR w v L) : Calls Tryz.prog 10 #[v] w (fun e w' => w' = w ∧ ∃ x : Nat, e = .returned (.int .i64 x) ∧ x < 1000003) := by
  obtain ⟨A, c, rfl, hL, hx⟩ := h
  have HX := Lib.hid hx
  clear hx
  go_enter Tryz.func10, Tryz.ntmps10
  go_wp2_with fail
  go_loopw [8, 3] (fun x8 x3 wr => ∃ (k x : Nat), k ≤ L ∧ x8 = .int .i64 k ∧ x3 = .int .i64 x ∧ x < 1000003 ∧ wr = w) (fun x8 _ _ => L - (intOf x8).toNat)
  case atStart => exact ⟨0, 0, Nat.zero_le _, rfl, rfl, by omega, rfl⟩
  case round =>
    obtain ⟨k, x, hk, rfl, rfl, hxl, rfl⟩ := hrel
    by_cases hlt : k < L
    · obtain ⟨b, off, rfl, hc⟩ := HX.out (by omega)
      obtain ⟨z, hz1, hz2, hc1⟩ := hc k hlt
      obtain ⟨z, rfl⟩ : ∃ zn : Nat, z = (zn : Int) := ⟨z.toNat, by omega⟩
      have i1 : (0 : Int) ≤ (k : Int) := by omega
      have i2 : (k : Int) < (L : Int) := by omega
      clear hc
      go_wp2_with fail
      go_roundw
      case rel => exact ⟨k + 1, (31 * x + z) % 1000003, by omega, by go_num, by go_num, by omega, by first | rfl | trivial⟩
      case measure => simp [intOf]; omega
    · obtain rfl : k = L := by omega
      go_wp2_with fail
      go_ret
      exact ⟨rfl, x, rfl, hxl⟩
/-- the number is one of the code's bytes, whatever else turns -/
theorem numberOf_det {v : Value} {L : Nat} {w : World} (h : CodeR w v L) : ∃ x : Nat, x < 1000003 ∧ ∀ W, Below w.heap.size w W → Calls Tryz.prog 10 #[v] W (fun e w' => w' = W ∧ e = .returned (.int .i64 (x : Nat))) := by
  obtain ⟨A, c, rfl, hL, hx⟩ := h
  obtain ⟨z, hz⟩ : ∃ z : Nat → Nat, 0 < L → ∃ b off, A = some ⟨b, off, none⟩ ∧ ∀ j, j < L → z j ≤ 255 ∧ w.cell? ⟨b, off + j, none⟩ = some (.int .u8 (z j : Nat)) := by
    by_cases h0 : 0 < L
    · obtain ⟨b, off, e, hc⟩ := hx h0
      have : ∀ j, ∃ y : Nat, j < L → y ≤ 255 ∧ w.cell? ⟨b, off + j, none⟩ = some (.int .u8 (y : Nat)) := fun j => by
        by_cases hj : j < L
        · obtain ⟨q, h1, h2, h3⟩ := hc j hj
          exact ⟨q.toNat, fun _ => ⟨by omega, by rw [h3, Int.toNat_of_nonneg h1]⟩⟩
        · exact ⟨0, fun h => absurd h hj⟩
      obtain ⟨z, hz⟩ := Classical.skolem.1 this
      exact ⟨z, fun _ => ⟨b, off, e, hz⟩⟩
    · exact ⟨fun _ => 0, fun h => absurd h h0⟩
  let f : Nat → Nat := fun n => Nat.rec 0 (fun j x => (31 * x + z j) % 1000003) n
  have hf0 : f 0 = 0 := rfl
  have hfs : ∀ j, f (j + 1) = (31 * f j + z j) % 1000003 := fun _ => rfl
  have hfl : ∀ j, f j < 1000003 := fun j => by cases j with
    | zero => rw [hf0]; omega
    | succ j => rw [hfs]; exact Nat.mod_lt _ (by omega)
  refine ⟨f L, hfl L, fun W hW => ?_⟩
  have HX := Lib.hid hz
  have HW := Lib.hid hW
  have HF := Lib.hid (And.intro hf0 (And.intro hfs hfl))
  clear hz hx hW hf0 hfs hfl
  generalize f = f at *
  go_enter Tryz.func10, Tryz.ntmps10
  go_wp2_with fail
  go_loopw [8, 3] (fun x8 x3 wr => ∃ (k : Nat), k ≤ L ∧ x8 = .int .i64 k ∧ x3 = .int .i64 (f k : Nat) ∧ wr = W) (fun x8 _ _ => L - (intOf x8).toNat)
  case atStart => exact ⟨0, Nat.zero_le _, rfl, by rw [HF.out.1]; rfl, rfl⟩
  case round =>
    obtain ⟨k, hk, rfl, rfl, rfl⟩ := hrel
    by_cases hlt : k < L
    · obtain ⟨b, off, rfl, hc⟩ := HX.out (by omega)
      obtain ⟨hz1, hc0⟩ := hc k hlt
      have hc1 := (HW.out.cell (p := ⟨b, off + k, none⟩) (lt_of_cell hc0)).trans hc0
      have hnx := HF.out.2.1 k
      have hfk := HF.out.2.2 k
      have HN := Lib.hid hnx
      obtain ⟨x, hx⟩ : ∃ x, x = f k := ⟨_, rfl⟩
      obtain ⟨y, hy⟩ : ∃ y, y = z k := ⟨_, rfl⟩
      rw [← hx] at hfk
      rw [← hy] at hc1 hz1
      have HXY := Lib.hid (And.intro hx hy)
      rw [← hx]
      have i1 : (0 : Int) ≤ (k : Int) := by omega
      have i2 : (k : Int) < (L : Int) := by omega
      clear hc hnx hc0 hx hy
      go_wp2_with fail
      go_roundw
      case rel => exact ⟨k + 1, by omega, by go_num, by rw [HN.out, ← HXY.out.1, ← HXY.out.2]; go_num, by first | rfl | trivial⟩
      case measure => simp [intOf]; omega
    · obtain rfl : k = L := by omega
      go_wp2_with fail
      go_ret
      exact ⟨rfl, rfl⟩
end Go.Proofs.YtljjbhihllnnaaaGreat
