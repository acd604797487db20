/- Parts of the proof. -/
import Derived.Test.YtolpiolnhgpjjaaGreatCSo1
import Derived.Test.YtolpiolnhgpjjaaGreatCJn11
import Derived.Test.YtolpiolnhgpjjaaGreatCJn29
set_option linter.unusedSimpArgs false
set_option linter.unusedVariables false
namespace Go.Proofs.YtolpiolnhgpjjaaGreat
section
open Go.RowKit
structure Je (w : World) (g : Nat) (f : FuncId) (caps : Array Value) (cf : Int → Int → Int) (κ : Int → Int) (Pd : Int → Prop) : Prop where
 en : ∀ (args : Array Value) (w : World), (callFunc f args).run Tryz.prog w = .ok (.enter f args) w
 call : ∀ x y W, Pd x → Pd y → w.grownBy W (some g) → Calls Tryz.prog f (#[.int .i64 x, .int .i64 y] ++ caps) W (RetD W (.int .i64 (cf x y)))
 sgn : ∀ x y, Pd x → Pd y → (cf x y < 0 ↔ κ x < κ y)
theorem wl {Pd : Int → Prop} {d d' : List Int} (h : d'.Perm d) (hp : ∀ x ∈ d, Pd x) : ∀ x ∈ d', Pd x := fun x hx => hp x (h.mem_iff.1 hx)
theorem zd {Pd : Int → Prop} {d : List Int} (hp : ∀ x ∈ d, Pd x) {i : Nat} (hi : i < d.length) : Pd (gi d i) := hp _ (by rw [bo hi]; exact List.getElem_mem hi)
def Gu (κ : Int → Int) (d : List Int) (a b : Nat) (d' : List Int) : Prop := SameOut d d' a b ∧ SortedOn κ d' a b
set_option maxRecDepth 100000 in
set_option maxHeartbeats 2000000 in
theorem C3 (w0 : World) (B g n cap : Nat) (f : FuncId) (caps : Array Value) (cf : Int → Int → Int) (κ : Int → Int) (Pd : Int → Prop) (hC : Je w0 g f caps cf κ Pd)
 (d : List Int) (a m b : Nat) (w : World) (h : OwnI w B (.slice (some ⟨g, 0, none⟩) n cap) d) (hl : n = d.length) (hn : n ≤ 1048576) (hpd : ∀ x ∈ d, Pd x) (hg0 : w0.grownBy w (some g))
 (ham : m = a + 1) (hmb : m < b) (hb : b ≤ n) (hs : SortedOn κ d m b) :
 Calls Tryz.prog 195 #[.slice (some ⟨g, 0, none⟩) n cap, .int .i64 a, .int .i64 m, .int .i64 b, .func (.func f) #[] caps] w (nc w B g n cap (Gu κ d a b)) := by
 have HO := Lib.hid h;have HL := Lib.hid hl;have HC := Lib.hid hC;have HPD := Lib.hid hpd;have HG0 := Lib.hid hg0;have HS := Lib.hid hs;have HAM := Lib.hid ham;have hen := hC.en;have e0 : ((m : Int) - (a : Int) == 1) = true := by simp; omega
 have ham1 : m ≤ a + 1 := by omega
 have ham2 : a + 1 ≤ m := by omega
 clear h hl hC hpd hg0 hs ham
 go_enter Tryz.func195, Tryz.ntmps195
 go_wp2
 go_loopw [10, 11] (fun vi vj wr => ∃ i j nd : Nat, vi = .int .i64 i ∧ vj = .int .i64 j ∧ m ≤ i ∧ i ≤ j ∧ j ≤ b ∧ (∀ x, m ≤ x → x < i → κ (gi d x) < κ (gi d a)) ∧ (∀ x, j ≤ x → x < b → κ (gi d a) ≤ κ (gi d x)) ∧ wr = w.drewN nd)
  (fun vi vj _ => (intOf vj - intOf vi).toNat)
 case atStart => exact ⟨m, b, 0, rfl, rfl, Nat.le_refl _, by omega, Nat.le_refl _, fun x h1 h2 => absurd h1 (by omega), fun x h1 h2 => absurd h1 (by omega), rfl⟩
 case round =>
  obtain ⟨i, j, nd, rfl, rfl, hi, hij, hj, hlo, hhi, rfl⟩ := hrel;have HLO := Lib.hid hlo;have HHI := Lib.hid hhi;clear hlo hhi
  by_cases hlt : i < j
  ·obtain ⟨h, hh1, hh2, hh3⟩ : ∃ h : Nat, ((i : Int) + (j : Int)) / 2 = (h : Int) ∧ i ≤ h ∧ h < j := ⟨(i + j) / 2, by omega, by omega, by omega⟩;have HH1 := Lib.hid hh1;clear hh1;obtain ⟨c1, -⟩ := HO.out.at_ HL.out (j := h) (by omega);obtain ⟨c2, -⟩ := HO.out.at_ HL.out (j := a) (by omega);have hp1 : Pd (gi d h) := zd HPD.out (by have := HL.out; omega);have hp2 : Pd (gi d a) := zd HPD.out (by have := HL.out; omega);have CC := Lib.hid (fun k => HC.out.call (gi d h) (gi d a) (w.drewN k) hp1 hp2 (ch HG0.out k));have hsg := HC.out.sgn (gi d h) (gi d a) hp1 hp2;have i1 : (0 : Int) ≤ (h : Int) := by omega
   have i2 : (h : Int) < (n : Int) := by omega
   have i3 : (0 : Int) ≤ (a : Int) := by omega
   have i4 : (a : Int) < (n : Int) := by omega
   clear hp1 hp2
   by_cases hk : κ (gi d h) < κ (gi d a)
   ·have hneg : cf (gi d h) (gi d a) < 0 := hsg.2 hk
    have HN : Hid (∀ x, m ≤ x → x < h + 1 → κ (gi d x) < κ (gi d a)) := fun x h1 h2 => by
     by_cases e : x = h
     ·rw [e]; exact hk
     ·have := HS.out x h h1 (by omega) (by omega); omega
    clear hsg hk
    go_wp2_with fail
    rw [HH1.out]
    go_quiet ((exact sa (CC.out _)))
    go_wp2_with fail
    go_roundw
    case rel => exact ⟨h + 1, j, _, by go_num, rfl, by omega, by omega, by omega, HN.out, HHI.out, by first | rfl | exact World.drewN_drewN _ _ _⟩
    case measure => simp [intOf]; omega
   ·have hneg : ¬ cf (gi d h) (gi d a) < 0 := fun h => hk (hsg.1 h)
    have HN : Hid (∀ x, h ≤ x → x < b → κ (gi d a) ≤ κ (gi d x)) := fun x h1 h2 => by
     by_cases e : x = h
     ·rw [e]; omega
     ·have := HS.out h x (by omega) (by omega) (by omega); omega
    clear hsg hk
    go_wp2_with fail
    rw [HH1.out]
    go_quiet ((exact sa (CC.out _)))
    go_wp2_with fail
    go_roundw
    case rel => exact ⟨i, h, _, rfl, rfl, by omega, by omega, by omega, HLO.out, HN.out, by first | rfl | exact World.drewN_drewN _ _ _⟩
    case measure => simp [intOf]; omega
  ·obtain rfl : i = j := by omega
   have HMG := Lib.hid (Kk (κ := κ) (i := i) (by have := HL.out; omega) (by omega) hj (by rw [← HAM.out]; exact HS.out) (fun x h1 h2 => by have := HLO.out x (by omega) h2; omega) HHI.out);clear HLO HHI
   go_wp2_with fail
   go_loopw [13] (fun vk wr => ∃ t : Nat, vk = .int .i64 ((a + t : Nat) : Int) ∧ a + t + 1 ≤ i ∧ OwnI wr B (.slice (some ⟨g, 0, none⟩) n cap) (rx d a t) ∧ w.grownBy wr (some g)) (fun vk _ => i - (intOf vk).toNat)
   case atStart => exact ⟨0, rfl, by omega, HO.out, ch (World.grownBy.refl _ _) _⟩
   case round =>
    obtain ⟨t, rfl, hti, hown, hgr⟩ := hrel;have hlen : n = (rx d a t).length := by rw [jm]; exact HL.out
    by_cases hlt2 : a + t + 1 < i
    ·obtain ⟨c1, f1⟩ := hown.at_ hlen (j := a + t) (by omega);obtain ⟨c2, f2⟩ := hown.at_ hlen (j := a + t + 1) (by omega)
     have HO1 : Hid (OwnI ((wr.setCell ⟨g, a + t, none⟩ (.int .i64 (gi (rx d a t) (a + t + 1)))).setCell ⟨g, a + t + 1, none⟩ (.int .i64 (gi (rx d a t) (a + t)))) B (.slice (some ⟨g, 0, none⟩) n cap) (rx d a (t + 1))) :=
      (hown.put hlen _).put (by rw [List.length_set]; exact hlen) _
     have HG1 := Lib.hid (gj (gj hgr (a + t) (.int .i64 (gi (rx d a t) (a + t + 1)))) (a + t + 1) (.int .i64 (gi (rx d a t) (a + t))))
     generalize gi (rx d a t) (a + t + 1) = x at *
     generalize gi (rx d a t) (a + t) = y at *
     obtain ⟨k, hk⟩ : ∃ k, k = a + t := ⟨_, rfl⟩;rw [← hk] at c1 c2 f1 f2 HO1 HG1 hlt2 hti ⊢;have HK := Lib.hid hk;clear hown hgr hlen hk
     go_wp2_with fail
     go_region
     all_goals go_wp2_with fail
     go_roundw
     case rel => exact ⟨t + 1, by have := HK.out; go_num, by have := HK.out; omega, HO1.out, ch HG1.out 1⟩
     case measure => simp [intOf]; omega
    ·have ht : t = i - 1 - a := by omega
     have HT := Lib.hid ht;have HOW := Lib.hid hown;have HGR := Lib.hid hgr;clear ht hown hgr hlen
     go_wp2_with fail
     refine bodyPost_ret (results_none rfl _ _ _) rfl ?_;exact ⟨_, rfl, HOW.out, by rw [HT.out]; exact HMG.out, HGR.out⟩
set_option maxRecDepth 100000 in
set_option maxHeartbeats 2000000 in
theorem Aq (w0 : World) (B g n cap : Nat) (f : FuncId) (caps : Array Value) (cf : Int → Int → Int) (κ : Int → Int) (Pd : Int → Prop) (hC : Je w0 g f caps cf κ Pd)
 (d : List Int) (a m b : Nat) (w : World) (h : OwnI w B (.slice (some ⟨g, 0, none⟩) n cap) d) (hl : n = d.length) (hn : n ≤ 1048576) (hpd : ∀ x ∈ d, Pd x) (hg0 : w0.grownBy w (some g))
 (ham : a + 1 < m) (hmb : b = m + 1) (hb : b ≤ n) (hs : SortedOn κ d a m) :
 Calls Tryz.prog 195 #[.slice (some ⟨g, 0, none⟩) n cap, .int .i64 a, .int .i64 m, .int .i64 b, .func (.func f) #[] caps] w (nc w B g n cap (Gu κ d a b)) := by
 have HO := Lib.hid h;have HL := Lib.hid hl;have HC := Lib.hid hC;have HPD := Lib.hid hpd;have HG0 := Lib.hid hg0;have HS := Lib.hid hs;have HMB := Lib.hid hmb;have hen := hC.en;have e0 : ((m : Int) - (a : Int) == 1) = false := by simp; omega
 have e00 : ((b : Int) - (m : Int) == 1) = true := by simp; omega
 have hmb1 : b ≤ m + 1 := by omega
 have hmb2 : m + 1 ≤ b := by omega
 clear h hl hC hpd hg0 hs hmb
 go_enter Tryz.func195, Tryz.ntmps195
 go_wp2
 go_loopw [14, 15] (fun vi vj wr => ∃ i j nd : Nat, vi = .int .i64 i ∧ vj = .int .i64 j ∧ a ≤ i ∧ i ≤ j ∧ j ≤ m ∧ (∀ x, a ≤ x → x < i → κ (gi d x) ≤ κ (gi d m)) ∧ (∀ x, j ≤ x → x < m → κ (gi d m) ≤ κ (gi d x)) ∧ wr = w.drewN nd)
  (fun vi vj _ => (intOf vj - intOf vi).toNat)
 case atStart => exact ⟨a, m, 0, rfl, rfl, Nat.le_refl _, by omega, Nat.le_refl _, fun x h1 h2 => absurd h1 (by omega), fun x h1 h2 => absurd h1 (by omega), rfl⟩
 case round =>
  obtain ⟨i, j, nd, rfl, rfl, hi, hij, hj, hlo, hhi, rfl⟩ := hrel;have HLO := Lib.hid hlo;have HHI := Lib.hid hhi;clear hlo hhi
  by_cases hlt : i < j
  ·obtain ⟨h, hh1, hh2, hh3⟩ : ∃ h : Nat, ((i : Int) + (j : Int)) / 2 = (h : Int) ∧ i ≤ h ∧ h < j := ⟨(i + j) / 2, by omega, by omega, by omega⟩;have HH1 := Lib.hid hh1;clear hh1;obtain ⟨c1, -⟩ := HO.out.at_ HL.out (j := h) (by omega);obtain ⟨c2, -⟩ := HO.out.at_ HL.out (j := m) (by omega);have hp1 : Pd (gi d h) := zd HPD.out (by have := HL.out; omega);have hp2 : Pd (gi d m) := zd HPD.out (by have := HL.out; omega);have CC := Lib.hid (fun k => HC.out.call (gi d m) (gi d h) (w.drewN k) hp2 hp1 (ch HG0.out k));have hsg := HC.out.sgn (gi d m) (gi d h) hp2 hp1;have i1 : (0 : Int) ≤ (h : Int) := by omega
   have i2 : (h : Int) < (n : Int) := by omega
   have i3 : (0 : Int) ≤ (m : Int) := by omega
   have i4 : (m : Int) < (n : Int) := by omega
   clear hp1 hp2
   by_cases hk : κ (gi d m) < κ (gi d h)
   ·have hneg : cf (gi d m) (gi d h) < 0 := hsg.2 hk;have hneg2 : decide (cf (gi d m) (gi d h) < 0) = true := by simpa using hneg
    have HN : Hid (∀ x, h ≤ x → x < m → κ (gi d m) ≤ κ (gi d x)) := fun x h1 h2 => by
     by_cases e : x = h
     ·rw [e]; omega
     ·have := HS.out h x (by omega) (by omega) (by omega); omega
    clear hsg hk
    go_wp2_with fail
    rw [HH1.out]
    go_quiet ((exact sa (CC.out _)))
    go_wp2_with fail
    go_roundw
    case rel => exact ⟨i, h, _, rfl, rfl, by omega, by omega, by omega, HLO.out, HN.out, by first | rfl | exact World.drewN_drewN _ _ _⟩
    case measure => simp [intOf]; omega
   ·have hneg : ¬ cf (gi d m) (gi d h) < 0 := fun h => hk (hsg.1 h);have hneg2 : decide (cf (gi d m) (gi d h) < 0) = false := by simpa using hneg
    have HN : Hid (∀ x, a ≤ x → x < h + 1 → κ (gi d x) ≤ κ (gi d m)) := fun x h1 h2 => by
     by_cases e : x = h
     ·rw [e]; omega
     ·have := HS.out x h (by omega) (by omega) (by omega); omega
    clear hsg hk
    go_wp2_with fail
    rw [HH1.out]
    go_quiet ((exact sa (CC.out _)))
    go_wp2_with fail
    go_roundw
    case rel => exact ⟨h + 1, j, _, by go_num, rfl, by omega, by omega, by omega, HN.out, HHI.out, by first | rfl | exact World.drewN_drewN _ _ _⟩
    case measure => simp [intOf]; omega
  ·obtain rfl : i = j := by omega
   have HMG := Lib.hid (qu (κ := κ) (i := i) (a := a) (m := m) (by have := HL.out; omega) hi hj HS.out HLO.out HHI.out);clear HLO HHI
   go_wp2_with fail
   go_loopw [17] (fun vk wr => ∃ t : Nat, vk = .int .i64 ((m - t : Nat) : Int) ∧ i + t ≤ m ∧ OwnI wr B (.slice (some ⟨g, 0, none⟩) n cap) (j7 d m t) ∧ w.grownBy wr (some g)) (fun vk _ => (intOf vk).toNat)
   case atStart => exact ⟨0, rfl, by omega, HO.out, ch (World.grownBy.refl _ _) _⟩
   case round =>
    obtain ⟨t, rfl, hti, hown, hgr⟩ := hrel;have hlen : n = (j7 d m t).length := by rw [f5]; exact HL.out
    by_cases hlt2 : i + t < m
    ·obtain ⟨c1, f1⟩ := hown.at_ hlen (j := m - t) (by omega);obtain ⟨c2, f2⟩ := hown.at_ hlen (j := m - t - 1) (by omega)
     have HO1 : Hid (OwnI ((wr.setCell ⟨g, m - t, none⟩ (.int .i64 (gi (j7 d m t) (m - t - 1)))).setCell ⟨g, m - t - 1, none⟩ (.int .i64 (gi (j7 d m t) (m - t)))) B (.slice (some ⟨g, 0, none⟩) n cap) (j7 d m (t + 1))) :=
      (hown.put hlen _).put (by rw [List.length_set]; exact hlen) _
     have HG1 := Lib.hid (gj (gj hgr (m - t) (.int .i64 (gi (j7 d m t) (m - t - 1)))) (m - t - 1) (.int .i64 (gi (j7 d m t) (m - t))))
     generalize gi (j7 d m t) (m - t - 1) = x at *
     generalize gi (j7 d m t) (m - t) = y at *
     obtain ⟨k, hk⟩ : ∃ k, m - t = k + 1 := ⟨m - t - 1, by omega⟩;rw [hk, Nat.add_sub_cancel] at c2 f2 HO1 HG1;rw [hk] at c1 f1 ⊢;have hki : i < k + 1 := by omega
     have hkn : k + 1 < n := by omega
     have HK := Lib.hid hk;clear hown hgr hlen hk
     go_wp2_with fail
     go_region
     all_goals go_wp2_with fail
     go_roundw
     case rel => exact ⟨t + 1, congrArg (Value.int .i64) (by have := HK.out; omega), by have := HK.out; omega, HO1.out, ch HG1.out 1⟩
     case measure => simp [intOf]
    ·have ht : t = m - i := by omega
     have HT := Lib.hid ht;have HOW := Lib.hid hown;have HGR := Lib.hid hgr;clear ht hown hgr hlen
     go_wp2_with fail
     refine bodyPost_ret (results_none rfl _ _ _) rfl ?_;exact ⟨_, rfl, HOW.out, by rw [HT.out, HMB.out]; exact HMG.out, HGR.out⟩
end
section
open Go.RowKit
set_option maxRecDepth 100000 in
set_option maxHeartbeats 4000000 in
theorem Da (w0 : World) (B g n cap : Nat) (f : FuncId) (caps : Array Value) (cf : Int → Int → Int) (κ : Int → Int) (Pd : Int → Prop) (hC : Je w0 g f caps cf κ Pd)
 (d : List Int) (a b : Nat) (w : World) (h : OwnI w B (.slice (some ⟨g, 0, none⟩) n cap) d) (hl : n = d.length) (hn : n ≤ 1048576) (hpd : ∀ x ∈ d, Pd x) (hg0 : w0.grownBy w (some g))
 (ha : a ≤ n) (hb : b ≤ n) :
 Calls Tryz.prog 194 #[.slice (some ⟨g, 0, none⟩) n cap, .int .i64 a, .int .i64 b, .func (.func f) #[] caps] w (nc w B g n cap (Gu κ d a b)) := by
 have HO := Lib.hid h;have HL := Lib.hid hl;have HC := Lib.hid hC;have HPD := Lib.hid hpd;have HG0 := Lib.hid hg0;have hen := hC.en;clear h hl hC hpd hg0
 go_enter Tryz.func194, Tryz.ntmps194
 go_wp2
 go_loopw [8] (fun vi wr => ∃ (i : Nat) (e : List Int), vi = .int .i64 i ∧ a + 1 ≤ i ∧ (i ≤ b ∨ i = a + 1) ∧ OwnI wr B (.slice (some ⟨g, 0, none⟩) n cap) e ∧ SameOut d e a b ∧ SortedOn κ e a i ∧ w.grownBy wr (some g))
  (fun vi _ => b - (intOf vi).toNat)
 case atStart => exact ⟨a + 1, d, by go_num, Nat.le_refl _, .inr rfl, HO.out, SameOut.refl _ _ _, SortedOn.short (Nat.le_refl _), World.grownBy.refl _ _⟩
 case round =>
  obtain ⟨wo, rfl⟩ : ∃ wo : World, wo = wr := ⟨_, rfl⟩;obtain ⟨i, e, rfl, hi1, hi2, hown, hso, hsr, hgr⟩ := hrel;have HI2 := Lib.hid hi2;have HSO := Lib.hid hso;have HSR := Lib.hid hsr;have HOW := Lib.hid hown;have HGR := Lib.hid hgr;clear hi2 hso hsr hown hgr
  by_cases hlt : i < b
  ·go_wp2
   go_loopw [9] (fun vj wr => ∃ j : Nat, vj = .int .i64 j ∧ a ≤ j ∧ j ≤ i ∧ OwnI wr B (.slice (some ⟨g, 0, none⟩) n cap) (j7 e i (i - j)) ∧ (∀ x, j ≤ x → x < i → κ (gi e i) ≤ κ (gi e x)) ∧ w.grownBy wr (some g))
    (fun vj _ => (intOf vj).toNat)
   case atStart => exact ⟨i, rfl, by omega, Nat.le_refl _, by rw [Nat.sub_self]; exact HOW.out, fun x h1 h2 => absurd h1 (by omega), HGR.out⟩
   case round =>
    obtain ⟨j, rfl, hj1, hj2, hown, hhi, hgr⟩ := hrel;have HHI := Lib.hid hhi;have HGI := Lib.hid hgr;have HOI := Lib.hid hown;clear hhi hgr hown;have hlen : n = (j7 e i (i - j)).length := by rw [f5, HSO.out.len]; exact HL.out
    have HLN := Lib.hid hlen;clear hlen;have hie : i < e.length := by have := HLN.out; rw [f5] at this; omega
    have HIE := Lib.hid hie;clear hie
    by_cases hja : a < j
    ·have hin : j < n := by omega
     obtain ⟨c1, f1⟩ := HOI.out.at_ HLN.out (j := j) hin;obtain ⟨c2, f2⟩ := HOI.out.at_ HLN.out (j := j - 1) (by omega);have g1 : gi (j7 e i (i - j)) j = gi e i := by rw [xd HIE.out (i - j) (by omega), if_neg (by omega), if_pos (by omega)]
     have g2 : gi (j7 e i (i - j)) (j - 1) = gi e (j - 1) := by rw [xd HIE.out (i - j) (by omega), if_neg (by omega), if_neg (by omega)]
     have hpe : ∀ x ∈ e, Pd x := wl HSO.out.1 HPD.out;have hp1 : Pd (gi e i) := zd hpe HIE.out;have hp2 : Pd (gi e (j - 1)) := zd hpe (by have := HIE.out; omega);have CC := Lib.hid (fun k => HC.out.call (gi e i) (gi e (j - 1)) (wr.drewN k) hp1 hp2 (ch (cr HG0.out HGI.out) k));have hsg := HC.out.sgn (gi e i) (gi e (j - 1)) hp1 hp2
     have HO1 : Hid (OwnI ((wr.setCell ⟨g, j, none⟩ (.int .i64 (gi (j7 e i (i - j)) (j - 1)))).setCell ⟨g, j - 1, none⟩ (.int .i64 (gi (j7 e i (i - j)) j))) B (.slice (some ⟨g, 0, none⟩) n cap) (j7 e i (i - (j - 1)))) := by
      have e1 : i - (j - 1) = (i - j) + 1 := by omega
      have e2 : i - (i - j) = j := by omega
      rw [e1, j7, e2];exact (HOI.out.put HLN.out _).put (by rw [List.length_set]; exact HLN.out) _
     have HG1 := Lib.hid (gj (gj HGI.out j (.int .i64 (gi (j7 e i (i - j)) (j - 1)))) (j - 1) (.int .i64 (gi (j7 e i (i - j)) j)));rw [g1] at c1 HO1 HG1;rw [g2] at c2 HO1 HG1
     have hlo : ¬ κ (gi e i) < κ (gi e (j - 1)) → ∀ x, a ≤ x → x < j → κ (gi e x) ≤ κ (gi e i) := fun hk x h1 h2 => by
      by_cases e3 : x = j - 1
      ·rw [e3]; omega
      ·have := HSR.out x (j - 1) h1 (by omega) (by omega); omega
     have HLO := Lib.hid hlo;clear g1 g2 hpe hp1 hp2 hlo
     by_cases hk : κ (gi e i) < κ (gi e (j - 1))
     ·have hneg : cf (gi e i) (gi e (j - 1)) < 0 := hsg.2 hk;have hneg2 : decide (cf (gi e i) (gi e (j - 1)) < 0) = true := by simpa using hneg
      have HN : Hid (∀ x, j - 1 ≤ x → x < i → κ (gi e i) ≤ κ (gi e x)) := fun x h1 h2 => by
       by_cases e3 : x = j - 1
       ·rw [e3]; omega
       ·exact HHI.out x (by omega) h2
      have hja2 : decide (a < j) = true := by simp; omega
      clear hsg hk;obtain ⟨k, hk⟩ : ∃ k, j - 1 = k := ⟨_, rfl⟩;rw [hk] at c2 f2 HO1 HG1 CC hneg hneg2 HN;have hkj1 : k + 1 ≤ j := by omega
      have hkj2 : j ≤ k + 1 := by omega
      have hw1 : IntKind.i64.wrap ((j : Int) - 1) = (k : Int) := by rw [IntWalk.i64_in _ (by omega)]; omega
      clear hk;have i1 : (0 : Int) ≤ (j : Int) := by omega
      have i2 : (j : Int) < (n : Int) := by omega
      have i3 : (0 : Int) ≤ (k : Int) := by omega
      have i4 : (k : Int) < (n : Int) := by omega
      generalize gi e k = y at c2 HO1 HG1 CC hneg hneg2
      generalize gi e i = x at c1 HO1 HG1 CC hneg hneg2 HN
      as_aux_lemma =>
      go_wp2_with fail
      go_quiet ((exact Q1 (CC.out _)))
      go_wp2_with fail
      go_region
      all_goals go_wp2_with fail
      go_roundw
      case rel => exact ⟨k, rfl, by omega, by omega, HO1.out, HN.out, ch HG1.out _⟩
      case measure => simp [intOf]; omega
     ·have hneg : ¬ cf (gi e i) (gi e (j - 1)) < 0 := fun h => hk (hsg.1 h);have hneg2 : decide (cf (gi e i) (gi e (j - 1)) < 0) = false := by simpa using hneg
      have HLO' := Lib.hid (HLO.out hk);have hja2 : decide (a < j) = true := by simp; omega
      have HMR := Lib.hid (qu (κ := κ) (i := j) (a := a) (m := i) HIE.out hj1 hj2 HSR.out HLO'.out HHI.out);clear hsg hk HLO HO1 HG1 HLO';obtain ⟨k, hk⟩ : ∃ k, j - 1 = k := ⟨_, rfl⟩;rw [hk] at c2 f2 CC hneg hneg2;have hkj1 : k + 1 ≤ j := by omega
      have hw1 : IntKind.i64.wrap ((j : Int) - 1) = (k : Int) := by rw [IntWalk.i64_in _ (by omega)]; omega
      clear hk;have i1 : (0 : Int) ≤ (j : Int) := by omega
      have i2 : (j : Int) < (n : Int) := by omega
      have i3 : (0 : Int) ≤ (k : Int) := by omega
      have i4 : (k : Int) < (n : Int) := by omega
      generalize gi e k = y at c2 CC hneg hneg2
      generalize gi e i = x at c1 CC hneg hneg2
      as_aux_lemma =>
      go_wp2_with fail
      go_quiet ((exact Q1 (CC.out _)))
      go_wp2_with fail
      go_roundw
      case rel => exact ⟨i + 1, j7 e i (i - j), by go_num, by omega, .inl (by omega), HOI.out, HSO.out.trans (HMR.out.1.wider (Nat.le_refl _) (by omega)), HMR.out.2, ch HGI.out _⟩
      case measure => simp [intOf]; omega
    ·have hja2 : decide (a < j) = false := by simp; omega
     have HMR := Lib.hid (qu (κ := κ) (i := j) (a := a) (m := i) HIE.out hj1 hj2 HSR.out (fun x h1 h2 => absurd h1 (by omega)) HHI.out)
     as_aux_lemma =>
     go_wp2_with fail
     go_quiet (fail)
     go_wp2_with fail
     go_roundw
     case rel => exact ⟨i + 1, j7 e i (i - j), by go_num, by omega, .inl (by omega), HOI.out, HSO.out.trans (HMR.out.1.wider (Nat.le_refl _) (by omega)), HMR.out.2, ch HGI.out _⟩
     case measure => simp [intOf]; omega
  ·have hb2 : b ≤ i := by omega
   go_wp2
   go_end0
   exact ⟨e, rfl, HOW.out, ⟨HSO.out, HSR.out.sub (Nat.le_refl _) hb2⟩, HGR.out⟩
end
end Go.Proofs.YtolpiolnhgpjjaaGreat
