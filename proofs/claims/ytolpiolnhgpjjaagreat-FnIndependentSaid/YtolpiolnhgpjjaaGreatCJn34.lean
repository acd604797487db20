/- Parts of the proof. -/
import Derived.Test.YtolpiolnhgpjjaaGreatCJn33
import Derived.Deep.DeepCutAuto
set_option linter.unusedSimpArgs false
set_option linter.unusedVariables false
namespace Go.Proofs.YtolpiolnhgpjjaaGreat
section
open Go.RowKit
def yo (w0 : World) (B g n cap : Nat) (f : FuncId) (caps : Array Value) (κ : Int → Int) (Pd : Int → Prop) (s : Nat) : Prop :=
 ∀ (d : List Int) (a m b : Nat) (w : World), b ≤ a + s → OwnI w B (.slice (some ⟨g, 0, none⟩) n cap) d → n = d.length → (∀ x ∈ d, Pd x) → w0.grownBy w (some g) → a < m → m < b → b ≤ n → SortedOn κ d a m → SortedOn κ d m b →
  Calls Tryz.prog 195 #[.slice (some ⟨g, 0, none⟩) n cap, .int .i64 a, .int .i64 m, .int .i64 b, .func (.func f) #[] caps] w (nc w B g n cap (Gu κ d a b))
theorem A9 {d : List Int} {a m b : Nat} (h : a = m ∨ m = b) (h1 : a ≤ m) (h2 : m ≤ b) (x : Nat) : gi d x = iq d a m b x := by
 unfold iq
 by_cases e1 : a ≤ x ∧ x < a + (b - m)
 ·rw [if_pos e1]; congr 1; omega
 ·rw [if_neg e1]
  by_cases e2 : a + (b - m) ≤ x ∧ x < b
  ·rw [if_pos e2]; congr 1; omega
  ·rw [if_neg e2]
set_option maxRecDepth 100000 in
set_option maxHeartbeats 8000000 in
theorem C2 (w0 : World) (B g n cap : Nat) (f : FuncId) (caps : Array Value) (cf : Int → Int → Int) (κ : Int → Int) (Pd : Int → Prop) (hC : Je w0 g f caps cf κ Pd) (hn : n ≤ 1048576) (s : Nat) (ih : yo w0 B g n cap f caps κ Pd s) :
 yo w0 B g n cap f caps κ Pd (s + 1) := by
 intro d a m b w hsz h hl hpd hg0 ham hmb hb hs1 hs2
 by_cases hm1 : m = a + 1
 ·exact C3 w0 B g n cap f caps cf κ Pd hC d a m b w h hl hn hpd hg0 hm1 hmb hb hs2
 by_cases hm2 : b = m + 1
 ·exact Aq w0 B g n cap f caps cf κ Pd hC d a m b w h hl hn hpd hg0 (by omega) hm2 hb hs1
 have HIH := Lib.hid ih;have HO := Lib.hid h;have HL := Lib.hid hl;have HC := Lib.hid hC;have HPD := Lib.hid hpd;have HG0 := Lib.hid hg0;have HS1 := Lib.hid hs1;have HS2 := Lib.hid hs2;have hen := hC.en;have e0 : ((m : Int) - (a : Int) == 1) = false := by simp; omega
 have e00 : ((b : Int) - (m : Int) == 1) = false := by simp; omega
 have hma : a + 2 ≤ m := by omega
 have hbm : m + 2 ≤ b := by omega
 obtain ⟨mid, hmid1, hmid2, hmid3⟩ : ∃ mid : Nat, ((a : Int) + (b : Int)) / 2 = (mid : Int) ∧ 2 * mid ≤ a + b ∧ a + b ≤ 2 * mid + 1 := ⟨(a + b) / 2, by omega, by omega, by omega⟩;have HM1 := Lib.hid hmid1;clear h hl hC hpd hg0 hs1 hs2 hm1 hm2 hmid1 ih
 obtain ⟨st0, r0, hcase⟩ : ∃ st0 r0 : Nat, (mid < m ∧ st0 + b = mid + m ∧ r0 = mid) ∨ (m ≤ mid ∧ st0 = a ∧ r0 = m) := by
  by_cases hgt : mid < m
  ·exact ⟨mid + m - b, mid, .inl ⟨hgt, by omega, rfl⟩⟩
  ·exact ⟨a, m, .inr ⟨by omega, rfl, rfl⟩⟩
 have HCS := Lib.hid hcase;have hb1 : a ≤ st0 := by omega
 have hb2 : st0 ≤ r0 := by omega
 have hb3 : r0 ≤ m := by omega
 have hb4 : r0 ≤ mid := by omega
 have hb5 : mid + m ≤ st0 + b := by omega
 clear hcase
 go_enter Tryz.func195, Tryz.ntmps195
 go_upto_region 25 with (fail)
 rw [HM1.out]
 go_upto_region 26 with (fail)
 go_cut [20, 21] (fun vs vr wx => vs = .int .i64 0 ∧ vr = .int .i64 0 ∧ w = wx)
 case first =>
  go_wp2_with fail
  go_meet
  exact ⟨rfl, rfl, rfl⟩
 case rest =>
  obtain ⟨rfl, rfl, rfl⟩ := hcut
  go_step
  go_step
  go_cut [20, 21] (fun vs vr wx => vs = .int .i64 st0 ∧ vr = .int .i64 r0 ∧ w = wx)
  case first => as_aux_lemma =>
   by_cases hgt : mid < m
   ·go_wp2_with fail
    go_meet
    have := HCS.out;exact ⟨congrArg (Value.int .i64) (by omega), congrArg (Value.int .i64) (by omega), rfl⟩
   ·go_wp2_with fail
    go_meet
    have := HCS.out;exact ⟨congrArg (Value.int .i64) (by omega), congrArg (Value.int .i64) (by omega), rfl⟩
  case rest =>
  obtain ⟨rfl, rfl, rfl⟩ := hcut
  go_wp2_with fail
  go_loopw [20, 21] (fun vs vr wr => ∃ st r nd : Nat, vs = .int .i64 st ∧ vr = .int .i64 r ∧ st0 ≤ st ∧ st ≤ r ∧ r ≤ r0 ∧ (st = st0 ∨ κ (gi d (st - 1)) ≤ κ (gi d (mid + m - st))) ∧ (r = r0 ∨ κ (gi d (mid + m - r - 1)) < κ (gi d r)) ∧ wr = w.drewN nd)
   (fun vs vr _ => (intOf vr - intOf vs).toNat)
  case atStart =>
   exact ⟨st0, r0, 0, rfl, rfl, Nat.le_refl _, hb2, Nat.le_refl _, .inl rfl, .inl rfl, rfl⟩
  case round =>
   obtain ⟨st, r, nd, rfl, rfl, hst, hsr, hr, hlo, hhi, rfl⟩ := hrel;have HLO := Lib.hid hlo;have HHI := Lib.hid hhi;clear hlo hhi
   by_cases hlt : st < r
   ·obtain ⟨h, hh1, hh2, hh3⟩ : ∃ h : Nat, ((st : Int) + (r : Int)) / 2 = (h : Int) ∧ st ≤ h ∧ h < r := ⟨(st + r) / 2, by omega, by omega, by omega⟩;have HH1 := Lib.hid hh1;clear hh1;obtain ⟨q, hq⟩ : ∃ q : Nat, q + h + 1 = mid + m := ⟨mid + m - h - 1, by omega⟩;have hqn : q < n := by omega
    have hw1 : IntKind.i64.wrap ((mid : Int) + (m : Int) - 1 - (h : Int)) = (q : Int) := by rw [IntWalk.i64_in _ (by omega)]; omega
    obtain ⟨c1, -⟩ := HO.out.at_ HL.out (j := h) (by omega);obtain ⟨c2, -⟩ := HO.out.at_ HL.out (j := q) hqn;have hp1 : Pd (gi d h) := zd HPD.out (by have := HL.out; omega);have hp2 : Pd (gi d q) := zd HPD.out (by have := HL.out; omega);have CC := Lib.hid (fun k => HC.out.call (gi d q) (gi d h) (w.drewN k) hp2 hp1 (ch HG0.out k));have hsg := HC.out.sgn (gi d q) (gi d h) hp2 hp1;have HQ := Lib.hid hq;have i1 : (0 : Int) ≤ (h : Int) := by omega
    have i2 : (h : Int) < (n : Int) := by omega
    have i3 : (0 : Int) ≤ (q : Int) := by omega
    have i4 : (q : Int) < (n : Int) := by omega
    clear hp1 hp2 hq
    by_cases hk : κ (gi d q) < κ (gi d h)
    ·have hneg : cf (gi d q) (gi d h) < 0 := hsg.2 hk;have hneg2 : decide (cf (gi d q) (gi d h) < 0) = true := by simpa using hneg
     have HN : Hid (κ (gi d (mid + m - h - 1)) < κ (gi d h)) := by
      have := HQ.out;rw [show mid + m - h - 1 = q by omega]; exact hk
     clear hsg hk
     as_aux_lemma =>
     go_wp2_with fail
     rw [HH1.out]
     go_quiet ((exact sa (CC.out _)))
     go_wp2_with fail
     go_roundw
     case rel => exact ⟨st, h, _, rfl, rfl, hst, hh2, by omega, HLO.out, .inr HN.out, by first | rfl | exact World.drewN_drewN _ _ _⟩
     case measure => simp [intOf]; omega
    ·have hneg : ¬ cf (gi d q) (gi d h) < 0 := fun h => hk (hsg.1 h);have hneg2 : decide (cf (gi d q) (gi d h) < 0) = false := by simpa using hneg
     have HN : Hid (κ (gi d (h + 1 - 1)) ≤ κ (gi d (mid + m - (h + 1)))) := by
      have := HQ.out;have e : mid + m - (h + 1) = q := by omega
      show κ (gi d h) ≤ κ (gi d (mid + m - (h + 1)));rw [e]; omega
     clear hsg hk
     as_aux_lemma =>
     go_wp2_with fail
     rw [HH1.out]
     go_quiet ((exact sa (CC.out _)))
     go_wp2_with fail
     go_roundw
     case rel => exact ⟨h + 1, r, _, by go_num, rfl, by omega, by omega, hr, .inr HN.out, HHI.out, by first | rfl | exact World.drewN_drewN _ _ _⟩
     case measure => simp [intOf]; omega
   ·obtain rfl : st = r := by omega
    obtain ⟨en, hen1⟩ : ∃ en : Nat, st + en = mid + m := ⟨mid + m - st, by omega⟩
    have HA : Hid (a < st → en < b → κ (gi d (st - 1)) ≤ κ (gi d en)) := fun h1 h2 => by
     rcases HLO.out with h3 | h3
     ·have := HCS.out; omega
     ·rwa [show mid + m - st = en by omega] at h3
    have HB : Hid (m < en → st < m → κ (gi d (en - 1)) ≤ κ (gi d st)) := fun h1 h2 => by
     rcases HHI.out with h3 | h3
     ·have := HCS.out; omega
     ·rw [show mid + m - st - 1 = en - 1 by omega] at h3; omega
    have hq1 : st ≤ m := by omega
    have hq2 : m ≤ en := by omega
    have hq3 : en ≤ b := by omega
    have hq4 : a ≤ st := by omega
    have HEN : Hid ((mid : Int) + (m : Int) - (st : Int) = (en : Int)) := by show (mid : Int) + (m : Int) - (st : Int) = (en : Int); omega
    have HE1 := Lib.hid hen1;clear hen1 HLO HHI HCS
    go_upto_region 38 with (fail)
    go_cut [24] (fun v wx => v = .int .i64 en ∧ wx = w.drewN nd)
    case first =>
     go_wp2_with fail
     go_meet
     exact ⟨congrArg (Value.int .i64) HEN.out, rfl⟩
    case rest =>
     obtain ⟨rfl, rfl⟩ := hcut
     go_step
     go_step
     go_cut [] (fun wx => ∃ d1 : List Int, OwnI wx B (.slice (some ⟨g, 0, none⟩) n cap) d1 ∧ d1.Perm d ∧ (∀ x, gi d1 x = iq d st m en x) ∧ w.grownBy wx (some g))
     case first => as_aux_lemma =>
      by_cases hr1 : st < m
      ·by_cases hr2 : m < en
       ·go_wp2_with fail
        refine (Jv B g n cap d st m en _ _ (HO.out.drewN nd) HL.out hn hr1 hr2 (by omega)).mono ?_;rintro e' w1 ⟨d1, rfl, ho1, ⟨hp1, hx1⟩, hg1⟩;have HF := Lib.hid (show ∃ d1 : List Int, OwnI w1 B (.slice (some ⟨g, 0, none⟩) n cap) d1 ∧ d1.Perm d ∧ (∀ x, gi d1 x = iq d st m en x) ∧ w.grownBy w1 (some g) from ⟨d1, ho1, hp1, hx1, cr (ch (World.grownBy.refl w _) nd) hg1⟩);clear ho1 hp1 hx1 hg1
        go_wp2_with fail
        go_meet
        exact HF.out
       ·have HF := Lib.hid (A9 (d := d) (a := st) (m := m) (b := en) (.inr (by omega)) hq1 hq2)
        go_wp2_with fail
        go_meet
        exact ⟨d, HO.out.drewN nd, List.Perm.refl _, HF.out, ch (World.grownBy.refl w _) nd⟩
      ·have HF := Lib.hid (A9 (d := d) (a := st) (m := m) (b := en) (.inl (by omega)) hq1 hq2)
       go_wp2_with fail
       go_meet
       exact ⟨d, HO.out.drewN nd, List.Perm.refl _, HF.out, ch (World.grownBy.refl w _) nd⟩
     case rest =>
      obtain ⟨d1, ho1, hp1, hx1, hgr1⟩ := hcut;have hl1 : n = d1.length := by rw [hp1.length_eq]; exact HL.out
      obtain ⟨s1, s2, s3, s4, s5⟩ := Ib (κ := κ) (mid := mid) (by have := HE1.out; omega) hq4 hq1 hq2 hq3 HS1.out HS2.out HA.out HB.out hx1;have HSO : Hid (SameOut d d1 a b) := ⟨hp1, fun x hx => by rw [hx1]; unfold iq; rw [if_neg (by omega), if_neg (by omega)]⟩;have hm1 : a < mid := by omega
      have hm2 : mid < b := by omega
      have hm3 : st ≤ mid := by omega
      have hm4 : mid ≤ en := by have := HE1.out; omega
      have HL1 := Lib.hid hl1;have HP1 := Lib.hid hp1;have HO1 := Lib.hid ho1;have HR1 := Lib.hid hgr1;have T1 := Lib.hid s1;have T2 := Lib.hid s2;have T3 := Lib.hid s3;have T4 := Lib.hid s4;have T5 := Lib.hid s5;clear hl1 hp1 ho1 hgr1 s1 s2 s3 s4 s5 hx1 HA HB HS1 HS2
      go_step
      go_step
      go_cut [] (fun wx => ∃ d2 : List Int, OwnI wx B (.slice (some ⟨g, 0, none⟩) n cap) d2 ∧ SameOut d1 d2 a mid ∧ SortedOn κ d2 a mid ∧ w.grownBy wx (some g))
      case first => as_aux_lemma =>
       by_cases hr1 : a < st
       ·by_cases hr2 : st < mid
        ·go_wp2_with fail
         refine (HIH.out d1 a st mid _ (by omega) HO1.out HL1.out (wl HP1.out HPD.out) (cr HG0.out HR1.out) hr1 hr2 (by omega) T1.out T2.out).mono ?_;rintro e' w1 ⟨d2, rfl, ho2, ⟨hp2, hx2⟩, hg2⟩;have HF := Lib.hid (show ∃ d2 : List Int, OwnI w1 B (.slice (some ⟨g, 0, none⟩) n cap) d2 ∧ SameOut d1 d2 a mid ∧ SortedOn κ d2 a mid ∧ w.grownBy w1 (some g) from ⟨d2, ho2, hp2, hx2, cr HR1.out hg2⟩);clear ho2 hp2 hx2 hg2
         go_wp2_with fail
         go_meet
         exact HF.out
        ·go_wp2_with fail
         go_meet
         exact ⟨d1, HO1.out, SameOut.refl _ _ _, by rw [show mid = st by omega]; exact T1.out, HR1.out⟩
       ·go_wp2_with fail
        go_meet
        exact ⟨d1, HO1.out, SameOut.refl _ _ _, by rw [show a = st by omega]; exact T2.out, HR1.out⟩
      case rest =>
       obtain ⟨d2, ho2, hp2, hx2, hgr2⟩ := hcut;have HL2 : Hid (n = d2.length) := by have := HL1.out; show n = d2.length; rw [hp2.len]; exact this
       have HP2 := Lib.hid hp2;have HO2 := Lib.hid ho2;have HR2 := Lib.hid hgr2;have HX2 := Lib.hid hx2;have T3' : Hid (SortedOn κ d2 mid en) := fun x y h1 h2 h3 => by rw [hp2.2 x (by omega), hp2.2 y (by omega)]; exact T3.out x y h1 h2 h3
       have T4' : Hid (SortedOn κ d2 en b) := fun x y h1 h2 h3 => by rw [hp2.2 x (by omega), hp2.2 y (by omega)]; exact T4.out x y h1 h2 h3
       clear hp2 ho2 hgr2 hx2
       as_aux_lemma =>
       by_cases hr1 : mid < en
       ·by_cases hr2 : en < b
        ·go_wp2_with fail
         refine (HIH.out d2 mid en b _ (by omega) HO2.out HL2.out (wl (HP2.out.1.trans HP1.out) HPD.out) (cr HG0.out HR2.out) hr1 hr2 (by omega) T3'.out T4'.out).mono ?_;rintro e' w1 ⟨d3, rfl, ho3, ⟨hp3, hx3⟩, hg3⟩;have HF := Lib.hid (show ∃ d3 : List Int, OwnI w1 B (.slice (some ⟨g, 0, none⟩) n cap) d3 ∧ SameOut d2 d3 mid b ∧ SortedOn κ d3 mid b ∧ w.grownBy w1 (some g) from ⟨d3, ho3, hp3, hx3, cr HR2.out hg3⟩);clear ho3 hp3 hx3 hg3
         go_wp2_with fail
         go_end0
         obtain ⟨d3, a1, a2, a3, a4⟩ := HF.out;exact ⟨d3, rfl, a1, ⟨HSO.out.trans ((HP2.out.wider (Nat.le_refl _) (by omega)).trans (a2.wider (by omega) (Nat.le_refl _))), un (by have := HL1.out; omega) (by omega) (by omega) T5.out HP2.out HX2.out a2 a3⟩, a4⟩
        ·go_wp2_with fail
         go_end0
         exact ⟨d2, rfl, HO2.out, ⟨HSO.out.trans (HP2.out.wider (Nat.le_refl _) (by omega)), un (by have := HL1.out; omega) (by omega) (by omega) T5.out HP2.out HX2.out (SameOut.refl _ _ _) (by rw [show b = en by omega]; exact T3'.out)⟩, HR2.out⟩
       ·go_wp2_with fail
        go_end0
        exact ⟨d2, rfl, HO2.out, ⟨HSO.out.trans (HP2.out.wider (Nat.le_refl _) (by omega)), un (by have := HL1.out; omega) (by omega) (by omega) T5.out HP2.out HX2.out (SameOut.refl _ _ _) (by rw [show mid = en by omega]; exact T4'.out)⟩, HR2.out⟩
theorem vy (w0 : World) (B g n cap : Nat) (f : FuncId) (caps : Array Value) (cf : Int → Int → Int) (κ : Int → Int) (Pd : Int → Prop) (hC : Je w0 g f caps cf κ Pd) (hn : n ≤ 1048576) : ∀ s, yo w0 B g n cap f caps κ Pd s
 | 0 => fun d a m b w hsz _ _ _ _ h1 h2 => absurd hsz (by omega)
 | s + 1 => C2 w0 B g n cap f caps cf κ Pd hC hn s (vy w0 B g n cap f caps cf κ Pd hC hn s)
end
section
open Go.RowKit
def Gs (κ : Int → Int) (d : List Int) (n : Nat) (d' : List Int) : Prop := d'.Perm d ∧ SortedOn κ d' 0 n
set_option maxRecDepth 100000 in
set_option maxHeartbeats 4000000 in
theorem Jq (w0 : World) (B g n cap : Nat) (f : FuncId) (caps : Array Value) (cf : Int → Int → Int) (κ : Int → Int) (Pd : Int → Prop) (hC : Je w0 g f caps cf κ Pd)
 (d : List Int) (w : World) (h : OwnI w B (.slice (some ⟨g, 0, none⟩) n cap) d) (hl : n = d.length) (hn : n ≤ 1048576) (hpd : ∀ x ∈ d, Pd x) (hg0 : w0.grownBy w (some g)) :
 Calls Tryz.prog 160 #[.slice (some ⟨g, 0, none⟩) n cap, .int .i64 n, .func (.func f) #[] caps] w (nc w B g n cap (Gs κ d n)) := by
 have HO := Lib.hid h;have HL := Lib.hid hl;have HPD := Lib.hid hpd
 have CI := Lib.hid (fun (e : List Int) (a b : Nat) (W : World) (h1 : OwnI W B (.slice (some ⟨g, 0, none⟩) n cap) e) (h2 : e.Perm d) (h3 : w.grownBy W (some g)) (h4 : a ≤ n) (h5 : b ≤ n) =>
  Da w0 B g n cap f caps cf κ Pd hC e a b W h1 (by rw [h2.length_eq]; exact hl) hn (wl h2 hpd) (cr hg0 h3) h4 h5)
 have CM := Lib.hid (fun (e : List Int) (a m b : Nat) (W : World) (h1 : OwnI W B (.slice (some ⟨g, 0, none⟩) n cap) e) (h2 : e.Perm d) (h3 : w.grownBy W (some g)) (h4 : a < m) (h5 : m < b) (h6 : b ≤ n) (h7 : SortedOn κ e a m) (h8 : SortedOn κ e m b) =>
  vy w0 B g n cap f caps cf κ Pd hC hn b e a m b W (by omega) h1 (by rw [h2.length_eq]; exact hl) (wl h2 hpd) (cr hg0 h3) h4 h5 h6 h7 h8)
 clear h hl hC hpd hg0
 go_enter Tryz.func160, Tryz.ntmps160
 go_wp2_with fail
 go_loopw [7, 8] (fun va vb wr => ∃ (q a b : Nat) (e : List Int), va = .int .i64 a ∧ vb = .int .i64 b ∧ a = q * 20 ∧ b = a + 20 ∧ a ≤ n ∧ OwnI wr B (.slice (some ⟨g, 0, none⟩) n cap) e ∧ SameOut d e 0 n ∧ Runs κ e 20 0 a ∧ w.grownBy wr (some g))
  (fun _ vb _ => n + 20 - (intOf vb).toNat)
 case atStart => exact ⟨0, 0, 20, d, rfl, rfl, rfl, rfl, Nat.zero_le _, HO.out, SameOut.refl _ _ _, fun x y _ _ h => absurd h (Nat.not_lt_zero _), World.grownBy.refl _ _⟩
 case round =>
  obtain ⟨q, a, b, e, rfl, rfl, hq, hb, han, hown, hso, hrn, hgr⟩ := hrel;have HQ := Lib.hid hq;have HBB := Lib.hid hb;have hb1 : b ≤ a + 20 := by omega
  have hb2 : a + 20 ≤ b := by omega
  have HOW := Lib.hid hown;have HSO := Lib.hid hso;have HRN := Lib.hid hrn;have HGR := Lib.hid hgr;clear hq hb hown hso hrn hgr
  by_cases hlt : b ≤ n
  ·as_aux_lemma =>
   go_wp2_with fail
   refine (CI.out e a b wr HOW.out HSO.out.1 HGR.out han hlt).mono ?_;rintro e' w1 ⟨d', rfl, ho1, ⟨hs1, hs2⟩, hg1⟩;have HO1 := Lib.hid ho1;have HS1 := Lib.hid hs1;have HS2 := Lib.hid hs2;have HG1 := Lib.hid (cr HGR.out hg1);clear ho1 hs1 hs2 hg1
   go_wp2_with fail
   go_roundw
   case rel =>
    exact ⟨q + 1, b, b + 20, d', rfl, by go_num, by have := HQ.out; have := HBB.out; omega, rfl, hlt, HO1.out, HSO.out.trans (HS1.out.wider (Nat.zero_le _) hlt), (HRN.out.same HS1.out (.inl (Nat.le_refl _))).more HQ.out HS2.out, HG1.out⟩
   case measure => simp [intOf]; omega
  ·go_wp2_with fail
   refine (CI.out e a n wr HOW.out HSO.out.1 HGR.out han (Nat.le_refl _)).mono ?_;rintro e' w1 ⟨d1, rfl, ho1, ⟨hs1, hs2⟩, hg1⟩;have HO1 := Lib.hid ho1;have HS1 := Lib.hid (HSO.out.trans (hs1.wider (Nat.zero_le _) (Nat.le_refl _)));have HR1 := Lib.hid ((HRN.out.same hs1 (.inl (Nat.le_refl _))).more HQ.out hs2);have HG1 := Lib.hid (cr HGR.out hg1);clear ho1 hs1 hs2 hg1 HOW HSO HRN HGR HQ HBB hb1 hb2 han hlt
   go_wp2_with fail
   go_loopw [6] (fun vs wr => ∃ (bs : Nat) (e : List Int), vs = .int .i64 bs ∧ 1 ≤ bs ∧ bs ≤ 2097172 ∧ OwnI wr B (.slice (some ⟨g, 0, none⟩) n cap) e ∧ SameOut d e 0 n ∧ Runs κ e bs 0 n ∧ w.grownBy wr (some g))
    (fun vs _ => n - (intOf vs).toNat)
   case atStart => exact ⟨20, d1, rfl, by omega, by omega, HO1.out, HS1.out, HR1.out, HG1.out⟩
   case round =>
    clear HO1 HS1 HR1 HG1;obtain ⟨wo, rfl⟩ : ∃ wo : World, wo = wr := ⟨_, rfl⟩;obtain ⟨bs, e, rfl, hbs1, hbs2, hown, hso, hrn, hgr⟩ := hrel;have HOW := Lib.hid hown;have HSO := Lib.hid hso;have HRN := Lib.hid hrn;have HGR := Lib.hid hgr;clear hown hso hrn hgr
    by_cases hbn : bs < n
    ·go_wp2_with fail
     go_loopw [7, 8] (fun va vb wr => ∃ (q a b : Nat) (e : List Int), va = .int .i64 a ∧ vb = .int .i64 b ∧ a = q * (2 * bs) ∧ b = a + 2 * bs ∧ a ≤ n ∧ OwnI wr B (.slice (some ⟨g, 0, none⟩) n cap) e ∧ SameOut d e 0 n ∧ Runs κ e (2 * bs) 0 a ∧ Runs κ e bs a n ∧ w.grownBy wr (some g))
      (fun _ vb _ => n + 2 * bs - (intOf vb).toNat)
     case atStart => exact ⟨0, 0, 2 * bs, e, rfl, by go_num, by simp, by simp, Nat.zero_le _, HOW.out, HSO.out, fun x y _ _ h => absurd h (Nat.not_lt_zero _), HRN.out, HGR.out⟩
     case round =>
      clear HOW HSO HRN HGR;obtain ⟨q, a, b, e, rfl, rfl, hq, hb, han, hown, hso, hrn, hrn2, hgr⟩ := hrel;have hq1 : a = (2 * q) * bs := by rw [hq, ← Nat.mul_assoc, Nat.mul_comm q 2]
      have hq2 : a + bs = (2 * q + 1) * bs := by rw [hq1, Nat.add_mul, Nat.one_mul]
      have HQ := Lib.hid hq;have HQ1 := Lib.hid hq1;have HQ2 := Lib.hid hq2;have HBB := Lib.hid hb;have hb1 : b ≤ a + 2 * bs := by omega
      have hb2 : a + 2 * bs ≤ b := by omega
      have HOW := Lib.hid hown;have HSO := Lib.hid hso;have HRN := Lib.hid hrn;have HRN2 := Lib.hid hrn2;have HGR := Lib.hid hgr;obtain ⟨m, hm⟩ : ∃ m, m = a + bs := ⟨_, rfl⟩;have HM : Hid ((a : Int) + (bs : Int) = (m : Int)) := by show (a : Int) + (bs : Int) = (m : Int); omega
      have hm1 : m ≤ a + bs := by omega
      have hm2 : a + bs ≤ m := by omega
      have HM2 := Lib.hid (hm.trans hq2);clear hq hq1 hq2 hb hown hso hrn hrn2 hgr hm
      by_cases hlt : b ≤ n
      ·as_aux_lemma =>
       go_wp2_with fail
       rw [HM.out];refine (CM.out _ a m b wr HOW.out HSO.out.1 HGR.out (by omega) (by omega) hlt (HRN2.out.at_ HQ1.out (Nat.le_refl _) (by omega) hm1) (HRN2.out.at_ HM2.out (by omega) hlt (by omega))).mono ?_;rintro e' w1 ⟨d', rfl, ho1, ⟨hs1, hs2⟩, hg1⟩;have HO1 := Lib.hid ho1;have HS1 := Lib.hid hs1;have HS2 := Lib.hid hs2;have HG1 := Lib.hid (cr HGR.out hg1);clear ho1 hs1 hs2 hg1
       go_wp2_with fail
       go_roundw
       case rel =>
        exact ⟨q + 1, b, b + 2 * bs, d', rfl, by go_num, by have := HQ.out; have := HBB.out; rw [Nat.add_mul, Nat.one_mul]; omega, rfl, hlt, HO1.out, HSO.out.trans (HS1.out.wider (Nat.zero_le _) hlt), (HRN.out.same HS1.out (.inl (Nat.le_refl _))).more HQ.out HS2.out,
         (HRN2.out.sub (by omega) (Nat.le_refl _)).same HS1.out (.inr (Nat.le_refl _)), HG1.out⟩
       case measure => simp [intOf]; omega
      ·by_cases hmn : m < n
       ·as_aux_lemma =>
        go_wp2_with fail
        rw [HM.out]
        go_wp2_with fail
        refine (CM.out _ a m n wr HOW.out HSO.out.1 HGR.out (by omega) hmn (Nat.le_refl _) (HRN2.out.at_ HQ1.out (Nat.le_refl _) (by omega) hm1) (HRN2.out.at_ HM2.out (by omega) (Nat.le_refl _) (by omega))).mono ?_;rintro e' w1 ⟨d', rfl, ho1, ⟨hs1, hs2⟩, hg1⟩;have HO1 := Lib.hid ho1;have HS1 := Lib.hid hs1;have HS2 := Lib.hid hs2;have HG1 := Lib.hid (cr HGR.out hg1);clear ho1 hs1 hs2 hg1
        go_wp2_with fail
        go_roundw
        case rel => exact ⟨2 * bs, d', by go_num, by omega, by omega, HO1.out, HSO.out.trans (HS1.out.wider (Nat.zero_le _) (Nat.le_refl _)), (HRN.out.same HS1.out (.inl (Nat.le_refl _))).more HQ.out HS2.out, HG1.out⟩
        case measure => simp [intOf]; omega
       ·as_aux_lemma =>
        have HS3 := Lib.hid (HRN.out.more HQ.out (HRN2.out.at_ (c := n) HQ1.out (Nat.le_refl _) (Nat.le_refl _) (by omega)));have hmn2 : n ≤ a + bs := by omega
        go_wp2_with fail
        go_roundw
        case rel => exact ⟨2 * bs, _, by go_num, by omega, by omega, HOW.out, HSO.out, HS3.out, HGR.out⟩
        case measure => simp [intOf]; omega
    ·have hbn2 : n ≤ bs := by omega
     go_wp2_with fail
     go_end0
     exact ⟨e, rfl, HOW.out, ⟨HSO.out.1, HRN.out.all hbn2⟩, HGR.out⟩
set_option maxRecDepth 100000 in
set_option maxHeartbeats 1000000 in
theorem Cw (w0 : World) (B g n cap : Nat) (f : FuncId) (caps : Array Value) (cf : Int → Int → Int) (κ : Int → Int) (Pd : Int → Prop) (hC : Je w0 g f caps cf κ Pd)
 (d : List Int) (w : World) (h : OwnI w B (.slice (some ⟨g, 0, none⟩) n cap) d) (hl : n = d.length) (hn : n ≤ 1048576) (hpd : ∀ x ∈ d, Pd x) (hg0 : w0.grownBy w (some g)) :
 Calls Tryz.prog 79 #[.slice (some ⟨g, 0, none⟩) n cap, .func (.func f) #[] caps] w (nc w B g n cap (Gs κ d n)) := by
 have CS := Lib.hid (Jq w0 B g n cap f caps cf κ Pd hC d w h hl hn hpd hg0);clear h hl hpd hg0 hC
 go_enter Tryz.func79, Tryz.ntmps79
 go_wp2_with fail
 refine CS.out.mono ?_;rintro e' w1 ⟨d', rfl, ho1, hs1, hg1⟩;have HF := Lib.hid (show ∃ d', OwnI w1 B (.slice (some ⟨g, 0, none⟩) n cap) d' ∧ Gs κ d n d' ∧ w.grownBy w1 (some g) from ⟨d', ho1, hs1, hg1⟩);clear ho1 hs1 hg1
 go_wp2_with fail
 go_end0
 obtain ⟨d', a1, a2, a3⟩ := HF.out;exact ⟨d', rfl, a1, a2, a3⟩
end
end Go.Proofs.YtolpiolnhgpjjaaGreat
