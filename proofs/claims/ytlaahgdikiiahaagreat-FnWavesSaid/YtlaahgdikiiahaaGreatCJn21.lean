/- Parts of the proof, joined: Sp5, Sp6, Wvt, Wvs. -/
import Derived.Test.YtlaahgdikiiahaaGreatCSp4
import Derived.Test.YtlaahgdikiiahaaGreatCJn14
import Derived.StillTailTactics
set_option linter.unusedSimpArgs false
set_option linter.unusedVariables false
namespace Go.Proofs.YtlaahgdikiiahaaGreat
section
open Go.RowKit
theorem results_four {fn : Func} {t u v x : Tmp} (h : fn.results = #[.tmp t, .tmp u, .tmp v, .tmp x]) (tmps : Array Value) (P : Program) (w : World) :
 (results fn tmps).run P w = .ok (.tuple #[tmps.getD t undef, tmps.getD u undef, tmps.getD v undef, tmps.getD x undef]) w := by simp [results, h]
def RetUp (N : Net) (ps vals : List Int) (r : Nat) (ds : List Int) (w : World) (e : Ending) (w' : World) : Prop :=
 ∃ (v : Value) (s : List Int) (h : Int), e = .returned (.tuple #[v, .int .i64 h]) ∧ OwnI w' w.heap.size v s ∧ Final ps.length (par N ps) r vals s ∧ (∀ u, u < ps.length → ((gi s u).natAbs : Int) ≤ 40000000) ∧ IsMax ds h ∧ Below w.heap.size w w'
def HInv (n : Nat) (ds : List Int) (h : Int) (V : Nat → Bool) : Prop := 0 ≤ h ∧ (∀ u, u < n → V u = true → gi ds u ≤ h) ∧ (h = 0 ∨ ∃ u, u < n ∧ gi ds u = h)
set_option maxRecDepth 100000 in
set_option maxHeartbeats 2000000 in
theorem biUp_any {S S' S'' : Nat → Prop} (v u x : Value) (N : Net) (ps vals : List Int) (r : Nat) (ds : List Int) (w : World) (h : NetR w S v N) (hp : IntsR w S' u ps) (hv : IntsR w S'' x vals) (hg : goodB N = true)
 (ht : TreeAt N ps r ds) (hvl : vals.length = ps.length) (hvb : allB vals (-1000000) 1000000 = true) :
 Calls Tryz.prog 51 #[v, u, x] w (RetUp N ps vals r ds w) := by
 obtain ⟨hg1, hg2⟩ := good_len hg
 have hpl : ps.length = N.ends.length := ht.1
 have hn1 : 1 ≤ ps.length := by omega
 have hn2 : ps.length ≤ 40 := by omega
 have hn3 : ps.length ≤ N.ends.length := by omega
 have HTR := Lib.hid ht
 have HG := Lib.hid hg
 have HVL := Lib.hid hvl
 have HVB : Hid (∀ u, u < ps.length → ((gi vals u).natAbs : Int) ≤ 1000000) := fun u hu => by
  have := inB_iff.1 (allB_iff.1 hvb u (by omega)); omega
 have CD := Lib.hid (fun (W : World) (hW : Below w.heap.size w W) => biDepths_any v u N ps W (h.below hW) (hp.below hW) hg)
 have CO := Lib.hid (fun (W : World) (hW : Below w.heap.size w W) => l1Own_any x vals W (hv.below hW) (by omega))
 obtain ⟨ve, vi, vn, rfl, he, hi, hn⟩ := h
 obtain ⟨A1, c1, rfl, -, -, -⟩ := hi
 obtain ⟨A2, c2, rfl, -, -, -⟩ := hn
 obtain ⟨A, c, rfl, hnc, hm, hx⟩ := he
 obtain ⟨A3, c3, rfl, hnc3, hm3, hx3⟩ := hp
 unfold maxLen at hm hm3
 obtain ⟨b, off, rfl, -, hc⟩ := hx (by omega)
 obtain ⟨b3, off3, rfl, -, hc3⟩ := hx3 (by omega)
 have HC := Lib.hid hc
 have HC3 := Lib.hid hc3
 have hb0 : ∀ o1, Below w.heap.size w (w.alloc o1) := fun o1 => (Below.refl _ _).alloc (Nat.le_refl _) _
 have HB0 := Lib.hid hb0
 clear hc hc3 hx hx3 hv ht hg hpl hvl hvb hb0
 go_enter Tryz.func51, Tryz.ntmps51
 go_wp2_with fail
 refine (CD.out _ (HB0.out _)).mono ?_
 rintro e wd ⟨hbd, hres⟩
 rcases hres with ⟨r', ds', vd, htr, rfl, hod⟩ | ⟨hno, rfl⟩
 case inr => exact absurd ⟨r, ds, HTR.out⟩ hno
 obtain ⟨rfl, rfl⟩ := TreeAt.unique htr HTR.out
 have HBD := Lib.hid (Below.then_ (HB0.out _) hbd)
 have HKD := Lib.hid (Blk.below (Blk.new w _ _) hbd)
 have HOD := Lib.hid hod.ints
 have hdl : ds'.length = ps.length := htr.2.2.2.2.1
 obtain ⟨gd, cd, rfl, -, hgd, hd1, hd2⟩ := hod.addr (by omega)
 have HCD : Hid (∀ j, j < ps.length → wd.cell? ⟨gd, j, none⟩ = some (.int .i64 (gi ds' j))) := fun j hj => (hod.at_ rfl (by omega)).1
 rw [hdl] at hd1 ⊢
 have HDL := Lib.hid hdl
 clear hbd htr hod CD hdl
 go_wp2_with fail
 refine (CO.out _ HBD.out).mono ?_
 rintro e w1 ⟨vs, rfl, hos, hbs⟩
 obtain ⟨g, cs, rfl, hgs, hgw, hs1, hs2⟩ := hos.addr (by have := HVL.out; omega)
 have hos' : OwnI w1 wd.heap.size (.slice (some ⟨g, 0, none⟩) ps.length cs) vals := by rw [HVL.out] at hos; exact hos
 rw [HVL.out] at hs1 ⊢
 have HOS := Lib.hid hos'
 have HBS := Lib.hid hbs
 have HST := Lib.hid (SInv.start (par N ps) r' (V := fun u => decide ((ps.length : Int) < gi ds' u)) HVL.out (fun u hu => by
  have := (HTR.out.zero hu).2.2
  simp; omega) HVB.out)
 clear hbs hos hos' CO HVB
 go_wp2_with fail
 go_loopw [12, 13] (fun hh dd wr => ∃ (d : Nat) (s : List Int) (h : Int), d ≤ ps.length ∧ dd = .int .i64 d ∧ hh = .int .i64 h ∧ h ≤ 40 ∧ OwnI wr wd.heap.size (.slice (some ⟨g, 0, none⟩) ps.length cs) s ∧
  SInv ps.length (par N ps) r' (ps.length * 1000000) vals s (fun u => decide ((d : Int) < gi ds' u)) ∧ HInv ps.length ds' h (fun u => decide ((d : Int) < gi ds' u)) ∧ Below wd.heap.size wd wr)
  (fun _ dd _ => (intOf dd).toNat)
 case atStart =>
  refine ⟨ps.length, vals, 0, Nat.le_refl _, rfl, rfl, by omega, HOS.out, HST.out.1, ⟨by omega, fun u hu h => ?_, .inl rfl⟩, HBS.out⟩
  have := (HTR.out.zero hu).2.2
  simp at h
  omega
 case round =>
  obtain ⟨wo, rfl⟩ : ∃ wo : World, wo = wr := ⟨_, rfl⟩
  obtain ⟨d, s, h, hd, rfl, rfl, hh, hown, hinv, hhi, hbel⟩ := hrel
  have HOW := Lib.hid hown
  have HIN := Lib.hid hinv
  have HHI := Lib.hid hhi
  have HBE := Lib.hid hbel
  have hh0 : 0 ≤ h := hhi.1
  clear hown hinv hhi hbel
  by_cases hd0 : 0 < d
  ·go_wp2
   go_loopw [12, 33] (fun hh i wr => ∃ (k : Nat) (s : List Int) (h : Int), k ≤ ps.length ∧ i = .int .i64 k ∧ hh = .int .i64 h ∧ h ≤ 40 ∧ OwnI wr wd.heap.size (.slice (some ⟨g, 0, none⟩) ps.length cs) s ∧
    SInv ps.length (par N ps) r' (ps.length * 1000000) vals s (fun u => decide ((d : Int) < gi ds' u ∨ gi ds' u = d ∧ u < k)) ∧ HInv ps.length ds' h (fun u => decide ((d : Int) < gi ds' u ∨ gi ds' u = d ∧ u < k)) ∧ Below wd.heap.size wd wr)
    (fun _ i _ => ps.length - (intOf i).toNat)
   case atStart =>
    have e0 : (fun u => decide ((d : Int) < gi ds' u ∨ gi ds' u = d ∧ u < 0)) = (fun u => decide ((d : Int) < gi ds' u)) := by funext u; simp
    exact ⟨0, s, h, Nat.zero_le _, rfl, rfl, hh, HOW.out, by rw [e0]; exact HIN.out, by rw [e0]; exact HHI.out, HBE.out⟩
   case round =>
    clear HOW HIN HHI HBE hh hh0
    obtain ⟨k, s, h, hk, rfl, rfl, hh, hown, hinv, hhi, hbel⟩ := hrel
    have HOW := Lib.hid hown
    have HIN := Lib.hid hinv
    have HHI := Lib.hid hhi
    have HBE := Lib.hid hbel
    have hh0 : 0 ≤ h := hhi.1
    clear hown hinv hhi hbel
    by_cases hlt : k < ps.length
    ·have hck : wr.cell? ⟨gd, k, none⟩ = some (.int .i64 (gi ds' k)) := by rw [HBE.out.cell (by exact hgd)]; exact HCD.out k hlt
     by_cases hdk : gi ds' k = d
     ·have e2 : (gi ds' k == (d : Int)) = true := by simp [hdk]
      have hkr : k ≠ r' := fun e => by have := (HTR.out.zero hlt).1.2 e; omega
      obtain ⟨hp1, hp2, hp3, hp4⟩ := par_lt HG.out HTR.out.1 hlt (HTR.out.2.2.2.1 k hlt) hkr
      obtain ⟨hpd1, hpd2, hpd3⟩ := HTR.out.par HG.out hlt hkr
      obtain ⟨u, hu, A4, c4, rfl, hn4, hm4, hc4⟩ := HC.out k (by omega)
      unfold maxLen at hm4
      obtain ⟨b4, off4, rfl, -, hc4'⟩ := hc4 (by omega)
      have hq1 := (hc4' (gi ps k).toNat hp4).1
      rw [hp2] at hq1
      have hc5 := HC3.out k hlt
      obtain ⟨p, hpe⟩ : ∃ p, p = gi ps k := ⟨_, rfl⟩
      rw [← hpe] at hq1 hc5 hp3 hp4
      have hBB : Below w.heap.size w wr := Below.thenB HBD.out HBE.out HBD.out.size
      have i1 : wr.cell? ⟨b, off + k, none⟩ = some (.slice (some ⟨b4, off4, none⟩) (gl N.ends k).length c4) := (hBB.cell (p := ⟨b, off + k, none⟩) (lt_of_cell hu)).trans hu
      have i2 : wr.cell? ⟨b3, off3 + k, none⟩ = some (.int .i64 p) := (hBB.cell (p := ⟨b3, off3 + k, none⟩) (lt_of_cell hc5)).trans hc5
      have i3 : wr.cell? ⟨b4, off4 + p.toNat * 2, none⟩ = some (.int .i64 (par N ps k : Nat)) := (hBB.cell (p := ⟨b4, off4 + p.toNat * 2, none⟩) (lt_of_cell hq1)).trans hq1
      have i4 := (HKD.out.below HBE.out).cell
      have hsl : ps.length = s.length := HIN.out.len.symm
      obtain ⟨i5, -⟩ := HOW.out.at_ hsl hlt
      obtain ⟨i6, i7⟩ := HOW.out.at_ hsl hp1
      have hab1 := HIN.out.abs hlt
      have hab2 := HIN.out.abs hp1
      have HNE : Hid (par N ps k ≠ k) := fun e => by rw [e] at hpd2; omega
      have hst := HIN.out.step (V' := fun u => decide ((d : Int) < gi ds' u ∨ gi ds' u = d ∧ u < k + 1)) hlt hkr (by simp [hdk]) hp1 (by simp; omega) HNE.out (fun u hu => by
       simp only [decide_eq_true_eq]
       by_cases h3 : u = k
       ·subst h3; omega
       ·omega)
      have HHN : Hid (HInv ps.length ds' (max h d) (fun u => decide ((d : Int) < gi ds' u ∨ gi ds' u = d ∧ u < k + 1))) := by
       refine ⟨by omega, fun u hu h1 => ?_, ?_⟩
       ·simp only [decide_eq_true_eq] at h1
        by_cases h3 : gi ds' u = d
        ·omega
        ·have := HHI.out.2.1 u hu (by simp; omega)
         omega
       ·by_cases h3 : h ≤ d
        ·exact .inr ⟨k, hlt, by omega⟩
        ·rcases HHI.out.2.2 with h4 | ⟨u, hu, h4⟩
         ·omega
         ·exact .inr ⟨u, hu, by omega⟩
      have hpn : par N ps k < ps.length := hp1
      obtain ⟨q, hq⟩ : ∃ q, q = par N ps k := ⟨_, rfl⟩
      obtain ⟨sk, hsk⟩ : ∃ sk, sk = gi s k := ⟨_, rfl⟩
      obtain ⟨sq, hsq⟩ : ∃ sq, sq = gi s q := ⟨_, rfl⟩
      rw [← hq] at i3 i6 i7 hst hpn hab2
      rw [← hsk] at i5 hst hab1
      rw [← hsq] at i6 hst hab2
      have HST := Lib.hid hst
      have j0 : -40000000 ≤ sk ∧ sk ≤ 40000000 ∧ -40000000 ≤ sq ∧ sq ≤ 40000000 := by
       have : (ps.length : Int) * 1000000 ≤ 40000000 := by omega
       omega
      obtain ⟨j5, j6, j7, j8⟩ := j0
      have j1 : (0 : Int) ≤ (k : Int) := by omega
      have j2 : (k : Int) < (N.ends.length : Int) := by omega
      have j3 : (k : Int) < (ps.length : Int) := by omega
      have j4 : p < ((gl N.ends k).length : Int) := by omega
      have j9 : (0 : Int) ≤ (q : Int) := by omega
      have j10 : (q : Int) < (ps.length : Int) := by omega
      have hw1 : IntKind.i64.wrap (sq + sk) = sq + sk := IntWalk.i64_in _ (by omega)
      have HOP := Lib.hid (HOW.out.put hsl (j := q) (sq + sk))
      have HBP := Lib.hid (HBE.out.setCell (p := ⟨g, q, none⟩) hgs (.int .i64 (sq + sk)))
      clear hc4 hc4' hq1 hc5 hpe hp2 hu hBB hst hab1 hab2 hdk hq hsk hsq hpd1 hpd2 hpd3 hsl hp1
      go_wp2
      go_still_tail 21, (by kernel_rfl)
      change wpList _ _ _ _ _ wr.drew
      go_wp2_with (go_at_call 95; refine (l1Most_any _ _ _).mono ?_; rintro e w2 ⟨rfl, rfl⟩)
      go_roundw
      case rel => exact ⟨k + 1, s.set q (sq + sk), max h d, by omega, by go_num, rfl, by omega, HOP.out, HST.out.1, HHN.out, HBP.out.drew⟩
      case measure => simp [intOf]; omega
     ·have e2 : (gi ds' k == (d : Int)) = false := by simp [hdk]
      have e0 : Hid ((fun u => decide ((d : Int) < gi ds' u ∨ gi ds' u = d ∧ u < k + 1)) = (fun u => decide ((d : Int) < gi ds' u ∨ gi ds' u = d ∧ u < k))) := by
       funext u
       by_cases h3 : u = k
       ·subst h3; simp [hdk]
       ·have : u < k + 1 ↔ u < k := by omega
        simp [this]
      clear hdk
      go_wp2
      go_roundw
      case rel => exact ⟨k + 1, s, h, by omega, by go_num, rfl, hh, HOW.out, by rw [e0.out]; exact HIN.out, by rw [e0.out]; exact HHI.out, HBE.out⟩
      case measure => simp [intOf]; omega
    ·obtain rfl : k = ps.length := by omega
     have e0 : ∀ u, u < ps.length → decide (((d - 1 : Nat) : Int) < gi ds' u) = decide ((d : Int) < gi ds' u ∨ gi ds' u = d ∧ u < ps.length) := by
      intro u hu
      rw [decide_eq_decide]
      omega
     have HE0 := Lib.hid e0
     clear e0
     go_wp2
     go_roundw
     case rel =>
      refine ⟨d - 1, s, h, by omega, by go_num, rfl, hh, HOW.out, (HIN.out.congr HE0.out).1, ⟨HHI.out.1, fun u hu h1 => HHI.out.2.1 u hu (by show decide _ = true; rw [← HE0.out u hu]; exact h1), HHI.out.2.2⟩, HBE.out⟩
     case measure => simp [intOf]; omega
  ·obtain rfl : d = 0 := by omega
   go_wp2
   go_ret2
   refine ⟨_, s, h, rfl, HOW.out.mono HBD.out.size, (HIN.out.final fun u hu hr => ?_).1, fun u hu => ?_, ⟨fun u hu => ?_, ?_⟩, Below.thenB HBD.out HBE.out HBD.out.size⟩
   ·have := HTR.out.zero hu
    have h1 : gi ds' u ≠ 0 := fun e => hr (this.1.1 e)
    simp; omega
   ·have := HIN.out.abs hu
    omega
   ·have hu' : u < ps.length := by rw [← HDL.out]; exact hu
    have h1 := HTR.out.zero hu'
    by_cases h2 : gi ds' u = 0
    ·have := HHI.out.1; omega
    ·exact HHI.out.2.1 u hu' (by simp; omega)
   ·rcases HHI.out.2.2 with h1 | ⟨u, hu, h1⟩
    ·exact ⟨r', by rw [HDL.out]; exact HTR.out.2.1, by rw [h1]; exact (HTR.out.zero HTR.out.2.1).1.2 rfl⟩
    ·exact ⟨u, by rw [HDL.out]; exact hu, h1⟩
end
section
open Go.RowKit
open Classical in
noncomputable def treeB (N : Net) (ps : List Int) : Bool := decide (goodB N = true ∧ ∃ r ds, TreeAt N ps r ds)
theorem treeB_iff {N : Net} {ps : List Int} : treeB N ps = true ↔ goodB N = true ∧ ∃ r ds, TreeAt N ps r ds := by simp [treeB]
set_option maxRecDepth 100000 in
set_option maxHeartbeats 800000 in
theorem biTree_any {S S' : Nat → Prop} (v u : Value) (N : Net) (ps : List Int) (w : World) (h : NetR w S v N) (hp : IntsR w S' u ps) :
 Calls Tryz.prog 49 #[v, u] w (RetV w (.bool (treeB N ps))) := by
 have C1 := Lib.hid (fun (W : World) (hW : Below w.heap.size w W) => neGood_any v N W (h.below hW))
 have C2 := Lib.hid (fun (W : World) (hW : Below w.heap.size w W) (hg : goodB N = true) => biDepths_any v u N ps W (h.below hW) (hp.below hW) hg)
 obtain ⟨ve, vi, vn, rfl, he, hi, hn⟩ := h
 obtain ⟨A, c, rfl, -, -, -⟩ := he
 obtain ⟨A1, c1, rfl, -, -, -⟩ := hi
 obtain ⟨A2, c2, rfl, -, -, -⟩ := hn
 have hb0 : ∀ o1, Below w.heap.size w (w.alloc o1) := fun o1 => (Below.refl _ _).alloc (Nat.le_refl _) _
 have HB0 := Lib.hid hb0
 clear hb0 hp
 cases hg : goodB N
 ·have HT : Hid (treeB N ps = false) := by
   show _ = false
   rw [← Bool.not_eq_true, treeB_iff, hg]; rintro ⟨h, _⟩; cases h
  have HG := Lib.hid hg
  clear hg
  go_enter Tryz.func49, Tryz.ntmps49
  go_wp2_with (go_at_call 80; refine (C1.out _ (HB0.out _)).mono ?_; rintro e w1 ⟨rfl, hb1⟩; rw [HG.out]; have HB1 := Lib.hid (Below.then_ (HB0.out _) hb1); clear hb1)
  go_ret
  exact ⟨by rw [HT.out]; rfl, HB1.out⟩
 ·have HG := Lib.hid hg
  clear hg
  go_enter Tryz.func49, Tryz.ntmps49
  go_wp2_with fail
  refine (C1.out _ (HB0.out _)).mono ?_
  rintro e w1 ⟨rfl, hb1⟩
  rw [HG.out]
  have k1 := box1 hb1
  have HB1 := Lib.hid (Below.then_ (HB0.out _) hb1)
  clear hb1
  go_wp2_with fail
  refine (C2.out _ HB1.out HG.out).mono ?_
  rintro e w2 ⟨hb2, hres⟩
  have HB2 := Lib.hid (Below.then_ HB1.out hb2)
  clear hb2 k1
  rcases hres with ⟨r, ds, vd, htr, rfl, -⟩ | ⟨hno, rfl⟩
  ·have HT : Hid (treeB N ps = true) := treeB_iff.2 ⟨HG.out, r, ds, htr⟩
   clear htr
   go_wp2_with fail
   go_ret
   exact ⟨by rw [HT.out]; rfl, HB2.out⟩
  ·have HT : Hid (treeB N ps = false) := by
    show _ = false
    rw [← Bool.not_eq_true, treeB_iff]; exact fun h => hno h.2
   clear hno
   go_wp2_with fail
   go_ret
   exact ⟨by rw [HT.out]; rfl, HB2.out⟩
def SumOk (N : Net) (ps vals : List Int) : Prop := goodB N = true ∧ (∃ r ds, TreeAt N ps r ds) ∧ vals.length = ps.length ∧ allB vals (-1000000) 1000000 = true
def SumIs (N : Net) (ps vals s : List Int) (h b : Int) : Prop := ∃ r ds, TreeAt N ps r ds ∧ Final ps.length (par N ps) r vals s ∧ IsMax ds h ∧ b = bitsAll ps.length r s
theorem SumIs.unique {N : Net} {ps vals s s' : List Int} {h h' b b' : Int} (hg : goodB N = true) (x : SumIs N ps vals s h b) (y : SumIs N ps vals s' h' b') : s = s' ∧ h = h' ∧ b = b' := by
 obtain ⟨r, ds, t, f, m, rfl⟩ := x
 obtain ⟨r', ds', t', f', m', rfl⟩ := y
 obtain ⟨rfl, rfl⟩ := TreeAt.unique t t'
 have := Final.unique (gi ds) (fun u hu hr => (t.par hg hu hr).2.1) (fun u hu => (t.zero hu).2.2) f f'
 subst this
 exact ⟨rfl, m.unique m', rfl⟩
def RetSum (N : Net) (ps vals : List Int) (w : World) (e : Ending) (w' : World) : Prop :=
 Below w.heap.size w w' ∧ ((SumOk N ps vals ∧ ∃ (v : Value) (s : List Int) (h b : Int), SumIs N ps vals s h b ∧ e = .returned (.tuple #[v, .int .i64 h, .int .i64 b, .bool true]) ∧ OwnI w' w.heap.size v s) ∨
  (¬ SumOk N ps vals ∧ e = .returned (.tuple #[.slice none 0 0, .int .i64 0, .int .i64 0, .bool false])))
theorem bitsPart_succ (r : Nat) (s : List Int) (k : Nat) : bitsAll (k + 1) r s = bitsAll k r s + (if k ≠ r then (bitsN (gi s k).natAbs : Int) + 1 else 0) := rfl
theorem bitsPart_le (r : Nat) (s : List Int) : ∀ k, 0 ≤ bitsAll k r s ∧ bitsAll k r s ≤ k * 65
 | 0 => by simp [bitsAll, sumTo]
 | k + 1 => by
  have := bitsPart_le r s k
  have h2 := bitsN_le (gi s k).natAbs
  rw [bitsPart_succ]
  split <;> omega
set_option maxRecDepth 100000 in
set_option maxHeartbeats 2000000 in
theorem specSumUp_any {S S' S'' : Nat → Prop} (v u x : Value) (N : Net) (ps vals : List Int) (w : World) (h : NetR w S v N) (hp : IntsR w S' u ps) (hv : IntsR w S'' x vals) :
 Calls Tryz.prog 17 #[v, u, x] w (RetSum N ps vals w) := by
 have hpb := hp.bound
 have hvb := hv.bound
 have C1 := Lib.hid (fun (W : World) (hW : Below w.heap.size w W) => biTree_any v u N ps W (h.below hW) (hp.below hW))
 have C2 := Lib.hid (fun (W : World) (hW : Below w.heap.size w W) => l1All_any x vals (-1000000) 1000000 W (hv.below hW))
 have C3 := Lib.hid (fun (W : World) (hW : Below w.heap.size w W) r ds => biUp_any v u x N ps vals r ds W (h.below hW) (hp.below hW) (hv.below hW))
 obtain ⟨ve, vi, vn, rfl, he, hi, hn⟩ := h
 obtain ⟨A, c, rfl, -, -, -⟩ := he
 obtain ⟨A1, c1, rfl, -, -, -⟩ := hi
 obtain ⟨A2, c2, rfl, -, -, -⟩ := hn
 obtain ⟨A3, c3, rfl, hn3, hm3, hx3⟩ := hp
 obtain ⟨A4, c4, rfl, -, -, -⟩ := hv
 have HX3 := Lib.hid hx3
 have hb0 : ∀ o1, Below w.heap.size w (w.alloc o1) := fun o1 => (Below.refl _ _).alloc (Nat.le_refl _) _
 have HB0 := Lib.hid hb0
 clear hb0 hx3
 cases ht : treeB N ps
 ·have HT : Hid (¬ SumOk N ps vals) := fun h => by have : treeB N ps = true := treeB_iff.2 ⟨h.1, h.2.1⟩; rw [ht] at this; cases this
  have H1 := Lib.hid ht
  clear ht
  go_enter Tryz.func17, Tryz.ntmps17
  go_wp2_with (go_at_call 49; refine (C1.out _ (HB0.out _)).mono ?_; rintro e w1 ⟨rfl, hb1⟩; rw [H1.out]; have HB1 := Lib.hid (Below.then_ (HB0.out _) hb1); clear hb1)
  refine bodyPost_ret (results_four rfl _ _ _) rfl ?_
  exact ⟨HB1.out, .inr ⟨HT.out, rfl⟩⟩
 have H1 := Lib.hid ht
 clear ht
 by_cases hl : vals.length = ps.length
 case neg =>
  have HT : Hid (¬ SumOk N ps vals) := fun h => hl h.2.2.1
  have e1 : (((vals.length : Nat) : Int) != ((ps.length : Nat) : Int)) = true := by simp; omega
  clear hl
  go_enter Tryz.func17, Tryz.ntmps17
  go_wp2_with (go_at_call 49; refine (C1.out _ (HB0.out _)).mono ?_; rintro e w1 ⟨rfl, hb1⟩; rw [H1.out]; have HB1 := Lib.hid (Below.then_ (HB0.out _) hb1); clear hb1)
  refine bodyPost_ret (results_four rfl _ _ _) rfl ?_
  exact ⟨HB1.out, .inr ⟨HT.out, rfl⟩⟩
 have e1 : (((vals.length : Nat) : Int) != ((ps.length : Nat) : Int)) = false := by simp [hl]
 have HL := Lib.hid hl
 clear hl
 cases ha : allB vals (-1000000) 1000000
 ·have HT : Hid (¬ SumOk N ps vals) := fun h => by have := h.2.2.2; rw [ha] at this; cases this
  have H2 := Lib.hid ha
  clear ha
  go_enter Tryz.func17, Tryz.ntmps17
  go_wp2_with (first | (go_at_call 49; refine (C1.out _ (HB0.out _)).mono ?_; rintro e w1 ⟨rfl, hb1⟩; rw [H1.out]; have HB1 := Lib.hid (Below.then_ (HB0.out _) hb1); clear hb1) | (go_at_call 50; refine (C2.out _ HB1.out).mono ?_; rintro e w2 ⟨rfl, rfl⟩; rw [H2.out]))
  refine bodyPost_ret (results_four rfl _ _ _) rfl ?_
  exact ⟨HB1.out, .inr ⟨HT.out, rfl⟩⟩
 have H2 := Lib.hid ha
 clear ha
 obtain ⟨hg, r, ds, htr⟩ := treeB_iff.1 H1.out
 obtain ⟨hg1, hg2⟩ := good_len hg
 have hpl : ps.length = N.ends.length := htr.1
 have hn1 : 1 ≤ ps.length := by omega
 have hn2 : ps.length ≤ 40 := by omega
 have HOK : Hid (SumOk N ps vals) := ⟨hg, ⟨r, ds, htr⟩, HL.out, H2.out⟩
 have HTR := Lib.hid htr
 have HG := Lib.hid hg
 obtain ⟨b3, off3, rfl, -, hc3⟩ := HX3.out (by omega)
 have HC3 := Lib.hid hc3
 clear hpl htr hg hc3 HX3
 go_enter Tryz.func17, Tryz.ntmps17
 go_wp2_with fail
 refine (C1.out _ (HB0.out _)).mono ?_
 rintro e w1 ⟨rfl, hb1⟩
 rw [H1.out]
 have k1 := box1 hb1
 have HB1 := Lib.hid (Below.then_ (HB0.out _) hb1)
 clear hb1
 go_wp2_with (go_at_call 50; refine (C2.out _ HB1.out).mono ?_; rintro e w2 ⟨rfl, rfl⟩; rw [H2.out])
 refine (C3.out _ HB1.out r ds HG.out HTR.out HL.out H2.out).mono ?_
 rintro e w2 ⟨vs, s, h, rfl, hos, hfin, hab, hmax, hb2⟩
 have HB2 := Lib.hid (Below.then_ HB1.out hb2)
 have HFI := Lib.hid hfin
 have HAB := Lib.hid hab
 have HMX := Lib.hid hmax
 have hsl : s.length = ps.length := hfin.1
 obtain ⟨g, cs, rfl, hgs, hgw, hs1, hs2⟩ := hos.addr (by omega)
 rw [hsl] at hs1 hos ⊢
 have HSL := Lib.hid hsl
 have HCS : Hid (∀ j, j < ps.length → w2.cell? ⟨g, j, none⟩ = some (.int .i64 (gi s j))) := fun j hj => (hos.at_ hsl.symm hj).1
 have HOS := Lib.hid (hos.mono (B' := w.heap.size) HB1.out.size)
 clear hb2 hos hfin hab hmax hsl k1
 go_wp2_with fail
 go_loop [12, 40] (fun bb i => ∃ k : Nat, k ≤ ps.length ∧ i = .int .i64 k ∧ bb = .int .i64 (bitsAll k r s)) (fun _ i => ps.length - (intOf i).toNat)
 case atStart => exact ⟨0, Nat.zero_le _, rfl, rfl⟩
 case round =>
  obtain ⟨k, hk, rfl, rfl⟩ := hrel
  have hbb := bitsPart_le r s k
  have hbs := bitsPart_succ r s k
  by_cases hlt : k < ps.length
  ·have hc5 := HC3.out k hlt
   have i1 : w2.cell? ⟨b3, off3 + k, none⟩ = some (.int .i64 (gi ps k)) := (HB2.out.cell (p := ⟨b3, off3 + k, none⟩) (lt_of_cell hc5)).trans hc5
   have i2 := HCS.out k hlt
   clear hc5
   have hab := HAB.out k hlt
   have hbk := bitsN_le (gi s k).natAbs
   by_cases hr : k = r
   ·have hneg : gi ps k < 0 := by have := HTR.out.2.2.1; rw [hr, this]; omega
    have HBS : Hid (bitsAll (k + 1) r s = bitsAll k r s) := by rw [hbs]; simp [hr, Hid]
    generalize bitsAll k r s = q at hbb HBS ⊢
    clear hbs hr
    go_wp2_with fail
    go_round
    case rel => exact ⟨k + 1, by omega, by go_num, by rw [HBS.out]⟩
    case measure => simp [intOf]; omega
   ·have hpos : 0 ≤ gi ps k := (par_lt HG.out HTR.out.1 hlt (HTR.out.2.2.2.1 k hlt) hr).2.2.1
    have HBS : Hid (bitsAll (k + 1) r s = bitsAll k r s + ((bitsN (gi s k).natAbs : Int) + 1)) := by rw [hbs]; simp [hr, Hid]
    have CB := Lib.hid (biBits_any (gi s k) w2 (by omega) (by omega))
    generalize bitsAll k r s = q at hbb HBS ⊢
    generalize bitsN (gi s k).natAbs = t at hbk HBS CB
    clear hbs hr
    go_wp2_with (go_at_call 52; refine CB.out.mono ?_; rintro e w3 ⟨rfl, rfl⟩)
    go_round
    case rel => exact ⟨k + 1, by omega, by go_num, by rw [HBS.out]⟩
    case measure => simp [intOf]; omega
  ·obtain rfl : k = ps.length := by omega
   go_wp2_with fail
   refine bodyPost_ret (results_four rfl _ _ _) rfl ?_
   exact ⟨HB2.out, .inl ⟨HOK.out, _, s, h, _, ⟨r, ds, HTR.out, HFI.out, HMX.out, rfl⟩, rfl, HOS.out⟩⟩
end
section
section
variable {N : Net} {root : Nat}
theorem sent_after (hs : Sym N.ends) (hr : root < N.ends.length) {r : Nat} (h : sentR N root r = 0) : ∀ k, wdn N root (r + k) = wdn N root r ∧ sentR N root (r + k) = 0
 | 0 => ⟨rfl, h⟩
 | k + 1 => by
  obtain ⟨h1, h2⟩ := sent_after hs hr h k
  have h3 : wdn N root (r + (k + 1)) = wdn N root r := (sent_zero hs hr (r := r + k) h2).trans h1
  refine ⟨h3, no_front fun w hw e => ?_⟩
  rw [h3] at e
  have := (wdn_ok hs hr r).bnd w hw
  push_cast at e; omega
theorem msgs_after (hs : Sym N.ends) (hr : root < N.ends.length) {r : Nat} (h : sentR N root r = 0) : ∀ k, msgs N root (r + k) = msgs N root r
 | 0 => rfl
 | k + 1 => by
  show msgs N root (r + k) + sentR N root (r + k) = _
  rw [(sent_after hs hr h k).2, msgs_after hs hr h k]; omega
def wmsg (N : Net) (root : Nat) : Int := msgs N root N.ends.length
noncomputable def wpar (N : Net) (root : Nat) : List Int := prts N (dists N root)
theorem wave_end (hs : Sym N.ends) (hr : root < N.ends.length) {r : Nat} (h : sentR N root r = 0) (hn : r ≤ N.ends.length) : wdn N root r = dists N root ∧ prts N (wdn N root r) = wpar N root ∧ msgs N root r = wmsg N root := by
 have h1 := last_round hs hr (sent_zero hs hr h)
 refine ⟨h1, by rw [h1]; rfl, ?_⟩
 have := msgs_after hs hr h (N.ends.length - r)
 rw [Nat.add_sub_cancel' hn] at this
 exact this.symm
theorem sentR_bnd (hd : ∀ w, w < N.ends.length → (gl N.ends w).length ≤ 6) (r : Nat) : 0 ≤ sentR N root r ∧ sentR N root r ≤ 6 * N.ends.length := by
 have key : ∀ n : Nat, n ≤ N.ends.length → 0 ≤ sumTo n (fun w => if gi (wdn N root r) w = r then snt (prt N (wdn N root r) w) (gl N.ends w).length else 0) ∧ sumTo n (fun w => if gi (wdn N root r) w = r then snt (prt N (wdn N root r) w) (gl N.ends w).length else 0) ≤ 6 * n := fun n => by
  induction n with
  | zero => intro _; simp [sumTo]
  | succ n ih =>
   intro hn
   have h1 := ih (by omega)
   have h2 := snt_bnd (prt N (wdn N root r) n) (gl N.ends n).length
   have h3 := hd n (by omega)
   rw [sumTo]
   split <;> push_cast <;> omega
 exact key _ (Nat.le_refl _)
theorem msgs_bnd (hd : ∀ w, w < N.ends.length → (gl N.ends w).length ≤ 6) : ∀ r : Nat, 0 ≤ msgs N root r ∧ msgs N root r ≤ r * (6 * N.ends.length)
 | 0 => by simp [msgs]
 | r + 1 => by
  have h1 := msgs_bnd hd r
  have h2 := sentR_bnd (root := root) hd r
  rw [msgs]
  push_cast
  rw [Int.add_mul]
  omega
theorem dists_ok (hs : Sym N.ends) (hr : root < N.ends.length) : WOk N root N.ends.length (dists N root) := by
 have h : sentR N root N.ends.length = 0 := no_front fun w hw e => by
  have := (wdn_ok hs hr N.ends.length).lt hs hw
  omega
 have := wdn_ok hs hr N.ends.length
 rw [(wave_end hs hr h (Nat.le_refl _)).1] at this
 exact this
theorem dists_is (hs : Sym N.ends) (hr : root < N.ends.length) : IsDist N root (dists N root) :=
 (dists_ok hs hr).dist fun w hw e => by have := (dists_ok hs hr).lt hs hw; omega
def connB (N : Net) (root : Nat) : Bool := (List.range N.ends.length).all fun w => decide (0 ≤ gi (wdn N root N.ends.length) w)
theorem dists_wdn (hs : Sym N.ends) (hr : root < N.ends.length) : wdn N root N.ends.length = dists N root :=
 (wave_end hs hr (no_front fun w hw e => by have := (wdn_ok hs hr N.ends.length).lt hs hw; omega) (Nat.le_refl _)).1
theorem connB_iff (hs : Sym N.ends) (hr : root < N.ends.length) : connB N root = true ↔ ∀ w, w < N.ends.length → 0 ≤ gi (dists N root) w := by
 unfold connB
 rw [dists_wdn hs hr, List.all_eq_true]
 exact ⟨fun h w hw => by simpa using h w (List.mem_range.2 hw), fun h w hw => by simpa using h w (List.mem_range.1 hw)⟩
theorem wpar_len : (wpar N root).length = N.ends.length := tab_len _ _
theorem wpar_at {w : Nat} (hw : w < N.ends.length) : gi (wpar N root) w = prt N (dists N root) w := gi_tab hw
theorem wave_tree (hs : Sym N.ends) (hr : root < N.ends.length) (hc : ∀ w, w < N.ends.length → 0 ≤ gi (dists N root) w) : TreeAt N (wpar N root) root (dists N root) := by
 have hok := dists_ok hs hr
 have hpar : ∀ w, w < N.ends.length → w ≠ root → par N (wpar N root) w < N.ends.length ∧ gi (dists N root) (par N (wpar N root) w) = gi (dists N root) w - 1 := fun w hw hne => by
  rcases prt_cases hok hw with ⟨h1, -⟩ | ⟨h1, m, h2, h3, h4, -⟩
  ·exact absurd (hok.zero w hw (by have := hc w hw; omega)) hne
  ·have e : par N (wpar N root) w = nd N w m := by unfold par nodeAt; rw [wpar_at hw, h2]; rfl
   rw [e]
   exact ⟨(sym_nd hs hw h3).1, h4⟩
 refine ⟨wpar_len, by rw [wpar_len]; exact hr, ?_, fun j hj => ?_, by rw [hok.len, wpar_len], fun v hv => ?_⟩
 ·rw [wpar_at hr]
  rcases prt_cases hok hr with ⟨-, h⟩ | ⟨h, -⟩
  ·exact h
  ·rw [hok.rt] at h; omega
 ·rw [wpar_len] at hj
  have := hc j hj
  unfold nodeOk
  rw [wpar_at hj]
  rcases prt_cases hok hj with ⟨h1, h2⟩ | ⟨h1, m, h2, h3, -⟩
  ·exact ⟨fun _ => hok.zero j hj (by omega), fun h => absurd h2 h⟩
  ·exact ⟨fun h => by omega, fun _ => inB_iff.2 (by omega)⟩
 ·rw [wpar_len] at hv
  obtain ⟨k, hk⟩ := Int.eq_ofNat_of_zero_le (hc v hv)
  have key : ∀ (k : Nat) v, v < N.ends.length → gi (dists N root) v = k → up N (wpar N root) k v = root ∧ ∀ i, i < k → up N (wpar N root) i v ≠ root := fun k => by
   induction k with
   | zero => intro v hv hk; exact ⟨hok.zero v hv (by simpa using hk), fun i hi => by omega⟩
   | succ k ih =>
    intro v hv hk
    have hne : v ≠ root := fun e => by rw [e, hok.rt] at hk; omega
    obtain ⟨h1, h2⟩ := hpar v hv hne
    obtain ⟨h3, h4⟩ := ih _ h1 (by omega)
    refine ⟨by rw [up_succ']; exact h3, fun i hi => ?_⟩
    cases i with
    | zero => exact hne
    | succ i => rw [up_succ']; exact h4 i (by omega)
  have := hok.lt hs hv
  exact ⟨k, hk, by rw [wpar_len]; omega, key k v hv hk⟩
theorem wave_no_tree (hs : Sym N.ends) (hr : root < N.ends.length) {w : Nat} (hw : w < N.ends.length) (h : gi (dists N root) w < 0) : ¬ ∃ r ds, TreeAt N (wpar N root) r ds := by
 rintro ⟨r, ds, ht⟩
 have hok := dists_ok hs hr
 have h1 : gi (wpar N root) w = -1 := by
  rw [wpar_at hw]
  rcases prt_cases hok hw with ⟨-, h2⟩ | ⟨h2, -⟩
  ·exact h2
  ·omega
 have h2 : gi (wpar N root) root = -1 := by
  rw [wpar_at hr]
  rcases prt_cases hok hr with ⟨-, h2⟩ | ⟨h2, -⟩
  ·exact h2
  ·rw [hok.rt] at h2; omega
 have e1 := (ht.2.2.2.1 w (by rw [wpar_len]; exact hw)).1 h1
 have e2 := (ht.2.2.2.1 root (by rw [wpar_len]; exact hr)).1 h2
 rw [e1, ← e2, hok.rt] at h
 omega
end
theorem sumTo_swap (f : Nat → Nat → Int) : ∀ n m, sumTo n (fun i => sumTo m (fun j => f i j)) = sumTo m (fun j => sumTo n (fun i => f i j))
 | 0, m => by rw [sumTo]; exact (sumTo_zero m fun i _ => rfl).symm
 | n + 1, m => by rw [sumTo, sumTo_swap f n m, ← sumTo_add]; rfl
theorem Final.root {n : Nat} {pa : Nat → Nat} {r : Nat} {vals s : List Int} (h : Final n pa r vals s) (hr : r < n) (hp : ∀ u, u < n → u ≠ r → pa u < n) : gi s r = sumTo n (gi vals) := by
 have h1 : sumTo n (gi s) = sumTo n (gi vals) + sumTo n (fun v => sumTo n (fun u => if u ≠ r ∧ pa u = v then gi s u else 0)) := by
  rw [← sumTo_add]; exact sumTo_congr n h.2
 rw [sumTo_swap (fun v u => if u ≠ r ∧ pa u = v then gi s u else 0) n n] at h1
 have h2 : sumTo n (fun u => sumTo n (fun v => if u ≠ r ∧ pa u = v then gi s u else 0)) = sumTo n (fun u => if u = r then 0 else gi s u) := sumTo_congr n fun u hu => by
  by_cases e : u = r
  ·rw [if_pos e]; exact sumTo_zero n fun v _ => by rw [if_neg (fun hh => hh.1 e)]
  ·rw [if_neg e]
   have := sumTo_single (gi s u) (pa u) n
   rw [if_pos (hp u hu e)] at this
   refine Eq.trans (sumTo_congr n fun v _ => ?_) this
   by_cases e2 : v = pa u
   ·rw [if_pos ⟨e, e2.symm⟩, if_pos e2]
   ·rw [if_neg (fun hh => e2 hh.2.symm), if_neg e2]
 have h3 : sumTo n (gi s) = sumTo n (fun u => if u = r then gi s r else 0) + sumTo n (fun u => if u = r then 0 else gi s u) := by
  rw [← sumTo_add]
  exact sumTo_congr n fun u _ => by split <;> simp_all
 rw [sumTo_single, if_pos hr] at h3
 omega
theorem SumIs.root {N : Net} {ps vals s : List Int} {h b : Int} (hg : goodB N = true) (x : SumIs N ps vals s h b) : ∃ (r : Nat) (ds : List Int), TreeAt N ps r ds ∧ r < s.length ∧ gi s r = sumTo ps.length (gi vals) ∧ IsMax ds h := by
 obtain ⟨r, ds, t, f, m, -⟩ := x
 exact ⟨r, ds, t, by rw [f.1]; exact t.2.1, f.root t.2.1 fun u hu hne => (t.par hg hu hne).1, m⟩
end
section
def mixI (n : Nat) (a b : List Int) (k : Nat) : List Int := tab n fun j => if j < k then gi a j else gi b j
theorem mixI_len (n : Nat) (a b : List Int) (k : Nat) : (mixI n a b k).length = n := tab_len _ _
theorem gi_mixI {n : Nat} {a b : List Int} {k w : Nat} (hw : w < n) : gi (mixI n a b k) w = if w < k then gi a w else gi b w := gi_tab hw
theorem mixI_zero {n : Nat} {a b : List Int} (hb : b.length = n) : mixI n a b 0 = b := (tab_eq hb fun w _ => by simp).symm
theorem mixI_all {n : Nat} {a b : List Int} (ha : a.length = n) : mixI n a b n = a := (tab_eq ha fun w hw => by rw [if_pos hw]).symm
theorem mixI_keep {n : Nat} {a b : List Int} {k : Nat} (h : gi a k = gi b k) : mixI n a b (k + 1) = mixI n a b k := by
 refine (tab_eq (mixI_len n a b (k + 1)) fun w hw => ?_).trans rfl
 rw [gi_mixI hw]
 by_cases e : w = k
 ·subst e; simp [h]
 ·by_cases e2 : w < k
  ·rw [if_pos e2, if_pos (by omega)]
  ·rw [if_neg e2, if_neg (by omega)]
theorem mixI_set {n : Nat} {a b : List Int} {k : Nat} {x : Int} (hk : k < n) (h : gi a k = x) : (mixI n a b k).set k x = mixI n a b (k + 1) := by
 refine (tab_eq (by rw [List.length_set, mixI_len]) fun w hw => ?_).trans rfl
 rw [gi_set (by rw [mixI_len]; exact hk)]
 by_cases e : w = k
 ·subst e; rw [if_pos rfl, if_pos (by omega), h]
 ·rw [if_neg e, gi_mixI hw]
  by_cases e2 : w < k
  ·rw [if_pos e2, if_pos (by omega)]
  ·rw [if_neg e2, if_neg (by omega)]
section
variable {N : Net} {root : Nat}
theorem prts_len (d : List Int) : (prts N d).length = N.ends.length := tab_len _ _
theorem gi_prts {d : List Int} {w : Nat} (hw : w < N.ends.length) : gi (prts N d) w = prt N d w := gi_tab hw
theorem wave_old (hs : Sym N.ends) (hr : root < N.ends.length) {r w : Nat} (hw : w < N.ends.length) (h0 : 0 ≤ gi (wdn N root r) w) :
 gi (wdn N root (r + 1)) w = gi (wdn N root r) w ∧ gi (prts N (wdn N root (r + 1))) w = gi (prts N (wdn N root r)) w := ⟨wdn_old hw h0, by rw [gi_prts hw, gi_prts hw, prt_old hs hr hw h0]⟩
theorem wave_non (hs : Sym N.ends) (hr : root < N.ends.length) {r w : Nat} (hw : w < N.ends.length) (h0 : gi (wdn N root r) w < 0) (he : ∀ j, j < (gl N.ends w).length → gi (wdn N root r) (nd N w j) ≠ r) :
 gi (wdn N root (r + 1)) w = gi (wdn N root r) w ∧ gi (prts N (wdn N root (r + 1))) w = gi (prts N (wdn N root r)) w := by
 have h1 := wdn_non hw h0 he
 have h2 := (wdn_ok hs hr r).low w hw
 refine ⟨by rw [h1]; omega, ?_⟩
 rw [gi_prts hw, gi_prts hw]
 unfold prt
 rw [if_pos (by omega), if_pos (by omega)]
theorem wave_new (hs : Sym N.ends) (hr : root < N.ends.length) {r w m : Nat} (hw : w < N.ends.length) (h0 : gi (wdn N root r) w < 0) (hm : m < (gl N.ends w).length) (he : gi (wdn N root r) (nd N w m) = r) (hf : ∀ j, j < m → gi (wdn N root r) (nd N w j) ≠ r) :
 gi (wdn N root (r + 1)) w = (r : Int) + 1 ∧ gi (prts N (wdn N root (r + 1))) w = m := by
 have h1 := wdn_new hw h0 hm he
 refine ⟨h1, ?_⟩
 rw [gi_prts hw]
 unfold prt
 rw [h1, if_neg (by omega)]
 have hv : ∀ j, j < (gl N.ends w).length → ((gi (wdn N root (r + 1)) (nd N w j) == (r : Int) + 1 - 1) = true ↔ gi (wdn N root r) (nd N w j) = r) := fun j hj => by
  have hx := (sym_nd hs hw hj).1
  rw [beq_iff_eq]
  by_cases h2 : 0 ≤ gi (wdn N root r) (nd N w j)
  ·rw [wdn_old hx h2]; omega
  ·have : gi (wdn N root (r + 1)) (nd N w j) = -1 ∨ gi (wdn N root (r + 1)) (nd N w j) = (r : Int) + 1 := by
    rw [wdn_succ hx, if_neg h2]; split <;> simp
   omega
 refine fstI_some hm ((hv m hm).2 he) fun j hj => ?_
 exact Bool.eq_false_iff.2 fun hh => hf j hj ((hv j (by omega)).1 hh)
theorem wave_up (hs : Sym N.ends) (hr : root < N.ends.length) {r v i : Nat} (hv : v < N.ends.length) (hi : i < (gl N.ends v).length) (h : gi (prts N (wdn N root r)) v = i) : 0 ≤ gi (wdn N root r) (nd N v i) := by
 rw [gi_prts hv] at h
 rcases prt_cases (wdn_ok hs hr r) hv with ⟨-, h2⟩ | ⟨h1, m, h2, -, h4, -⟩
 ·omega
 ·have : m = i := by omega
  subst this
  omega
structure WI (N : Net) (root r : Nat) (S : Nat → Nat → Prop) (d p : List Int) (nx : List Nat) : Prop where
 ld : d.length = N.ends.length
 lp : p.length = N.ends.length
 old : ∀ w, w < N.ends.length → 0 ≤ gi (wdn N root r) w → gi d w = gi (wdn N root r) w ∧ gi p w = gi (prts N (wdn N root r)) w
 new : ∀ w, w < N.ends.length → gi (wdn N root r) w < 0 → (gi d w = -1 ∧ gi p w = -1 ∧ w ∉ nx ∧ ∀ j, j < (gl N.ends w).length → ¬ S (nd N w j) (bk N w j)) ∨
  (gi d w = (r : Int) + 1 ∧ w ∈ nx ∧ ∃ m : Nat, m < (gl N.ends w).length ∧ gi p w = m ∧ S (nd N w m) (bk N w m) ∧ ∀ j, j < (gl N.ends w).length → S (nd N w j) (bk N w j) → m ≤ j)
 nodup : nx.Nodup
 rng : ∀ w ∈ nx, w < N.ends.length ∧ gi (wdn N root r) w < 0
theorem WI.start (hs : Sym N.ends) (hr : root < N.ends.length) {r : Nat} {S : Nat → Nat → Prop} (hS : ∀ u k, ¬ S u k) : WI N root r S (wdn N root r) (prts N (wdn N root r)) [] := by
 refine ⟨(wdn_ok hs hr r).len, prts_len _, fun w hw h => ⟨rfl, rfl⟩, fun w hw h => .inl ⟨by have := (wdn_ok hs hr r).low w hw; omega, ?_, by simp, fun j _ => hS _ _⟩, by simp, by simp⟩
 rw [gi_prts hw]; unfold prt; rw [if_pos (by omega)]
theorem WI.more {r : Nat} {S S' : Nat → Nat → Prop} {d p : List Int} {nx : List Nat} (h : WI N root r S d p nx) (hS : ∀ w, w < N.ends.length → gi (wdn N root r) w < 0 → ∀ j, j < (gl N.ends w).length → (S' (nd N w j) (bk N w j) ↔ S (nd N w j) (bk N w j))) : WI N root r S' d p nx := by
 refine ⟨h.ld, h.lp, h.old, fun w hw h0 => ?_, h.nodup, h.rng⟩
 rcases h.new w hw h0 with ⟨a1, a2, a3, a4⟩ | ⟨a1, a2, m, a3, a4, a5, a6⟩
 ·exact .inl ⟨a1, a2, a3, fun j hj hh => a4 j hj ((hS w hw h0 j hj).1 hh)⟩
 ·exact .inr ⟨a1, a2, m, a3, a4, (hS w hw h0 m a3).2 a5, fun j hj hh => a6 j hj ((hS w hw h0 j hj).1 hh)⟩
def Snext (S : Nat → Nat → Prop) (v i : Nat) : Nat → Nat → Prop := fun u k => S u k ∨ (u = v ∧ k = i)
theorem snext_at (hs : Sym N.ends) {S : Nat → Nat → Prop} {v i w j : Nat} (hv : v < N.ends.length) (hi : i < (gl N.ends v).length) (hw : w < N.ends.length) (hj : j < (gl N.ends w).length) :
 Snext S v i (nd N w j) (bk N w j) ↔ S (nd N w j) (bk N w j) ∨ (w = nd N v i ∧ j = bk N v i) := by
 unfold Snext
 obtain ⟨h1, h2, h3, h4, -⟩ := sym_nd hs hw hj
 obtain ⟨g1, g2, g3, g4, -⟩ := sym_nd hs hv hi
 constructor
 ·rintro (h | ⟨e1, e2⟩)
  ·exact .inl h
  ·rw [e1, e2] at h3 h4; exact .inr ⟨h3.symm, h4.symm⟩
 ·rintro (h | ⟨rfl, rfl⟩)
  ·exact .inl h
  ·exact .inr ⟨g3, g4⟩
theorem WI.found (hs : Sym N.ends) {r v i : Nat} {S : Nat → Nat → Prop} {d p : List Int} {nx : List Nat} (h : WI N root r S d p nx) (hv : v < N.ends.length) (hi : i < (gl N.ends v).length) (h0 : 0 ≤ gi (wdn N root r) (nd N v i)) : WI N root r (Snext S v i) d p nx :=
 h.more fun w hw hw0 j hj => by
  rw [snext_at hs hv hi hw hj]
  exact ⟨fun hh => hh.resolve_right fun e => by rw [e.1] at hw0; omega, .inl⟩
theorem WI.first (hs : Sym N.ends) {r v i : Nat} {S : Nat → Nat → Prop} {d p : List Int} {nx : List Nat} (h : WI N root r S d p nx) (hv : v < N.ends.length) (hi : i < (gl N.ends v).length) (h0 : gi d (nd N v i) < 0) :
 WI N root r (Snext S v i) (d.set (nd N v i) ((r : Int) + 1)) (p.set (nd N v i) (bk N v i)) (nx ++ [nd N v i]) := by
 obtain ⟨hx, hb, g3, g4, -⟩ := sym_nd hs hv hi
 have hx0 : gi (wdn N root r) (nd N v i) < 0 := by
  rcases Int.lt_or_le (gi (wdn N root r) (nd N v i)) 0 with h1 | h1
  ·exact h1
  ·rw [(h.old _ hx h1).1] at h0; omega
 have hnx := h.new _ hx hx0
 have hxn : nd N v i ∉ nx ∧ ∀ j, j < (gl N.ends (nd N v i)).length → ¬ S (nd N (nd N v i) j) (bk N (nd N v i) j) := by
  rcases hnx with ⟨-, -, a3, a4⟩ | ⟨a1, -⟩
  ·exact ⟨a3, a4⟩
  ·omega
 have hgd : ∀ u, gi (d.set (nd N v i) ((r : Int) + 1)) u = if u = nd N v i then (r : Int) + 1 else gi d u := fun u => gi_set (by rw [h.ld]; exact hx)
 have hgp : ∀ u, gi (p.set (nd N v i) (bk N v i)) u = if u = nd N v i then (bk N v i : Int) else gi p u := fun u => gi_set (by rw [h.lp]; exact hx)
 refine ⟨by rw [List.length_set]; exact h.ld, by rw [List.length_set]; exact h.lp, fun w hw hw0 => ?_, fun w hw hw0 => ?_, ?_, fun w hw => ?_⟩
 ·have hne : w ≠ nd N v i := fun e => by rw [e] at hw0; omega
  rw [hgd, hgp, if_neg hne, if_neg hne]
  exact h.old w hw hw0
 ·rw [hgd, hgp]
  by_cases e : w = nd N v i
  ·subst e
   rw [if_pos rfl, if_pos rfl]
   refine .inr ⟨rfl, by simp, bk N v i, hb, rfl, (snext_at hs hv hi hx hb).2 (.inr ⟨rfl, rfl⟩), fun j hj hh => ?_⟩
   rcases (snext_at hs hv hi hx hj).1 hh with hh | ⟨-, hh⟩
   ·exact absurd hh (hxn.2 j hj)
   ·omega
  ·rw [if_neg e, if_neg e]
   have hsn : ∀ j, j < (gl N.ends w).length → (Snext S v i (nd N w j) (bk N w j) ↔ S (nd N w j) (bk N w j)) := fun j hj => by
    rw [snext_at hs hv hi hw hj]; exact ⟨fun hh => hh.resolve_right fun x => e x.1, .inl⟩
   rcases h.new w hw hw0 with ⟨a1, a2, a3, a4⟩ | ⟨a1, a2, m, a3, a4, a5, a6⟩
   ·exact .inl ⟨a1, a2, by simp [a3, e], fun j hj hh => a4 j hj ((hsn j hj).1 hh)⟩
   ·exact .inr ⟨a1, by simp [a2], m, a3, a4, (hsn m a3).2 a5, fun j hj hh => a6 j hj ((hsn j hj).1 hh)⟩
 ·refine List.nodup_append.2 ⟨h.nodup, by simp, fun a ha b hb2 e => ?_⟩
  rw [List.mem_singleton.1 hb2] at e
  exact hxn.1 (by rw [← e]; exact ha)
 ·rcases List.mem_append.1 hw with hw | hw
  ·exact h.rng w hw
  ·rw [List.mem_singleton.1 hw]; exact ⟨hx, hx0⟩
theorem WI.again (hs : Sym N.ends) {r v i : Nat} {S : Nat → Nat → Prop} {d p : List Int} {nx : List Nat} (h : WI N root r S d p nx) (hb0 : ∀ w, w < N.ends.length → gi (wdn N root r) w ≤ r) (hv : v < N.ends.length) (hi : i < (gl N.ends v).length) (h0 : gi d (nd N v i) = (r : Int) + 1) :
 WI N root r (Snext S v i) d (p.set (nd N v i) (min (gi p (nd N v i)) (bk N v i))) nx := by
 obtain ⟨hx, hb, g3, g4, -⟩ := sym_nd hs hv hi
 have hx0 : gi (wdn N root r) (nd N v i) < 0 := by
  rcases Int.lt_or_le (gi (wdn N root r) (nd N v i)) 0 with h1 | h1
  ·exact h1
  ·have := (h.old _ hx h1).1; have := hb0 _ hx; omega
 have hgp : ∀ u, gi (p.set (nd N v i) (min (gi p (nd N v i)) (bk N v i))) u = if u = nd N v i then min (gi p (nd N v i)) (bk N v i) else gi p u := fun u => gi_set (by rw [h.lp]; exact hx)
 refine ⟨h.ld, by rw [List.length_set]; exact h.lp, fun w hw hw0 => ?_, fun w hw hw0 => ?_, h.nodup, h.rng⟩
 ·have hne : w ≠ nd N v i := fun e => by rw [e] at hw0; omega
  rw [hgp, if_neg hne]
  exact h.old w hw hw0
 ·rw [hgp]
  by_cases e : w = nd N v i
  ·subst e
   rw [if_pos rfl]
   rcases h.new _ hw hw0 with ⟨a1, -⟩ | ⟨a1, a2, m, a3, a4, a5, a6⟩
   ·omega
   ·refine .inr ⟨a1, a2, min m (bk N v i), by omega, by rw [a4]; omega, ?_, fun j hj hh => ?_⟩
    ·rcases Nat.le_total m (bk N v i) with hle | hle
     ·rw [Nat.min_eq_left hle]; exact (snext_at hs hv hi hx a3).2 (.inl a5)
     ·rw [Nat.min_eq_right hle]; exact (snext_at hs hv hi hx hb).2 (.inr ⟨rfl, rfl⟩)
    ·rcases (snext_at hs hv hi hx hj).1 hh with hh | ⟨-, hh⟩
     ·have := a6 j hj hh; omega
     ·omega
  ·rw [if_neg e]
   have hsn : ∀ j, j < (gl N.ends w).length → (Snext S v i (nd N w j) (bk N w j) ↔ S (nd N w j) (bk N w j)) := fun j hj => by
    rw [snext_at hs hv hi hw hj]; exact ⟨fun hh => hh.resolve_right fun x => e x.1, .inl⟩
   rcases h.new w hw hw0 with ⟨a1, a2, a3, a4⟩ | ⟨a1, a2, m, a3, a4, a5, a6⟩
   ·exact .inl ⟨a1, a2, a3, fun j hj hh => a4 j hj ((hsn j hj).1 hh)⟩
   ·exact .inr ⟨a1, a2, m, a3, a4, (hsn m a3).2 a5, fun j hj hh => a6 j hj ((hsn j hj).1 hh)⟩
theorem WI.done (hs : Sym N.ends) (hr : root < N.ends.length) {r : Nat} {S : Nat → Nat → Prop} {d p : List Int} {nx : List Nat} (h : WI N root r S d p nx) (hS : ∀ w, w < N.ends.length → ∀ j, j < (gl N.ends w).length → (S (nd N w j) (bk N w j) ↔ gi (wdn N root r) (nd N w j) = r)) :
 d = wdn N root (r + 1) ∧ p = prts N (wdn N root (r + 1)) ∧ ∀ w, w ∈ nx ↔ w < N.ends.length ∧ gi (wdn N root (r + 1)) w = (r : Int) + 1 := by
 have key : ∀ w, w < N.ends.length → gi d w = gi (wdn N root (r + 1)) w ∧ gi p w = gi (prts N (wdn N root (r + 1))) w ∧ (w ∈ nx ↔ gi (wdn N root (r + 1)) w = (r : Int) + 1) := fun w hw => by
  by_cases h0 : 0 ≤ gi (wdn N root r) w
  ·obtain ⟨e1, e2⟩ := wave_old hs hr hw h0
   obtain ⟨e3, e4⟩ := h.old w hw h0
   have := (wdn_ok hs hr r).bnd w hw
   exact ⟨by rw [e1, e3], by rw [e2, e4], fun hm => by have := (h.rng w hm).2; omega, fun hm => by omega⟩
  ·rcases h.new w hw (by omega) with ⟨a1, a2, a3, a4⟩ | ⟨a1, a2, m, a3, a4, a5, a6⟩
   ·obtain ⟨e1, e2⟩ := wave_non hs hr hw (by omega) fun j hj he => a4 j hj ((hS w hw j hj).2 he)
    have hl := (wdn_ok hs hr r).low w hw
    refine ⟨by rw [e1, a1]; omega, ?_, fun hm => absurd hm a3, fun hm => by omega⟩
    rw [e2, a2, gi_prts hw]; unfold prt; rw [if_pos (by omega)]
   ·obtain ⟨e1, e2⟩ := wave_new hs hr hw (by omega) a3 ((hS w hw m a3).1 a5) fun j hj he => by have := a6 j (by omega) ((hS w hw j (by omega)).2 he); omega
    exact ⟨by rw [e1, a1], by rw [e2, a4], fun _ => e1, fun _ => a2⟩
 refine ⟨ints_ext' (by rw [h.ld, (wdn_ok hs hr _).len]) fun w hw => (key w (by rw [h.ld] at hw; exact hw)).1, ints_ext' (by rw [h.lp, prts_len]) fun w hw => (key w (by rw [h.lp] at hw; exact hw)).2.1, fun w => ⟨fun hm => ?_, fun hm => (key w hm.1).2.2.2 hm.2⟩⟩
 have := (h.rng w hm).1
 exact ⟨this, (key w this).2.2.1 hm⟩
def sumL (F : List Nat) (f : Nat → Int) : Int := F.foldl (fun a u => a + f u) 0
theorem foldl_add (F : List Nat) (f : Nat → Int) : ∀ a : Int, F.foldl (fun a u => a + f u) a = a + sumL F f := by
 unfold sumL
 induction F with
 | nil => intro a; simp
 | cons u F ih => intro a; simp only [List.foldl_cons]; rw [ih, ih (0 + f u)]; omega
theorem sumL_snoc (F : List Nat) (u : Nat) (f : Nat → Int) : sumL (F ++ [u]) f = sumL F f + f u := by unfold sumL; rw [List.foldl_append]; rfl
theorem sumL_all {n : Nat} {F : List Nat} {f : Nat → Int} (hd : F.Nodup) (hr : ∀ u ∈ F, u < n) : sumL F f = sumTo n fun u => if u ∈ F then f u else 0 := by
 induction F with
 | nil => exact (sumTo_zero n fun i _ => by simp).symm
 | cons a F ih =>
  rw [List.nodup_cons] at hd
  have h1 : sumL (a :: F) f = f a + sumL F f := by
   show (F.foldl (fun a u => a + f u) (0 + f a)) = _
   rw [foldl_add]; omega
  have h2 := sumTo_single (f a) a n
  rw [if_pos (hr a (by simp))] at h2
  rw [h1, ih hd.2 fun u hu => hr u (by simp [hu])]
  refine Eq.trans (congrArg (· + _) h2.symm) (Eq.trans (sumTo_add _ _ n).symm (sumTo_congr n fun u _ => ?_))
  by_cases e : u = a
  ·subst e; simp [hd.1]
  ·simp [e]
theorem front_sum {r : Nat} {F : List Nat} (hd : F.Nodup) (hF : ∀ w, w ∈ F ↔ w < N.ends.length ∧ gi (wdn N root r) w = r) : sumL F (fun u => snt (gi (prts N (wdn N root r)) u) (gl N.ends u).length) = sentR N root r := by
 rw [sumL_all hd fun u hu => ((hF u).1 hu).1]
 refine sumTo_congr _ fun u hu => ?_
 rw [gi_prts hu]
 by_cases h : gi (wdn N root r) u = r
 ·rw [if_pos h, if_pos ((hF u).2 ⟨hu, h⟩)]
 ·rw [if_neg h, if_neg fun hh => h ((hF u).1 hh).2]
end
end
end Go.Proofs.YtlaahgdikiiahaaGreat
