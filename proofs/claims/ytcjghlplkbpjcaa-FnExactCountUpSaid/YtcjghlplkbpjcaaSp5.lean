/- The reference's sums along a tree. -/
import Derived.Test.YtcjghlplkbpjcaaSp4
import Derived.Test.YtcjghlplkbpjcaaSums
import Derived.StillTailTactics
namespace Go.Proofs.Ytcjghlplkbpjcaa
open Go.RowKit

theorem results_four {fn : Func} {t u v x : Tmp} (h : fn.results = #[.tmp t, .tmp u, .tmp v, .tmp x]) (tmps : Array Value) (P : Program) (w : World) :
    (results fn tmps).run P w = .ok (.tuple #[tmps.getD t undef, tmps.getD u undef, tmps.getD v undef, tmps.getD x undef]) w := by simp [results, h]

/-- sums and a height come back -/
def RetUp (N : Net) (ps vals : List Int) (r : Nat) (ds : List Int) (w : World) (e : Ending) (w' : World) : Prop :=
  ∃ (v : Value) (s : List Int) (h : Int), e = .returned (.tuple #[v, .int .i64 h]) ∧ OwnI w' w.heap.size v s ∧ Final ps.length (par N ps) r vals s ∧ (∀ u, u < ps.length → ((gi s u).natAbs : Int) ≤ 40000000) ∧ IsMax ds h ∧ Below w.heap.size w w'

def HInv (n : Nat) (ds : List Int) (h : Int) (V : Nat → Bool) : Prop := 0 ≤ h ∧ (∀ u, u < n → V u = true → gi ds u ≤ h) ∧ (h = 0 ∨ ∃ u, u < n ∧ gi ds u = h)

set_option maxRecDepth 100000 in
set_option maxHeartbeats 2000000 in
theorem biUp_any {S S' S'' : Nat → Prop} (v u x : Value) (N : Net) (ps vals : List Int) (r : Nat) (ds : List Int) (w : World) (h : NetR w S v N) (hp : IntsR w S' u ps) (hv : IntsR w S'' x vals) (hg : goodB N = true)
    (ht : TreeAt N ps r ds) (hvl : vals.length = ps.length) (hvb : allB vals (-1000000) 1000000 = true) :
    Calls Try.prog 59 #[v, u, x] w (RetUp N ps vals r ds w) := by
  obtain ⟨hg1, hg2⟩ := good_len hg
  have hpl : ps.length = N.ends.length := ht.1
  have hn1 : 1 ≤ ps.length := by omega
  have hn2 : ps.length ≤ 40 := by omega
  have hn3 : ps.length ≤ N.ends.length := by omega
  have HTR := Lib.hid ht
  have HG := Lib.hid hg
  have HVL := Lib.hid hvl
  have HVB : Hid (∀ u, u < ps.length → ((gi vals u).natAbs : Int) ≤ 1000000) := fun u hu => by
    have := inB_iff.1 (allB_iff.1 hvb u (by omega)); omega
  have CD := Lib.hid (fun (W : World) (hW : Below w.heap.size w W) => biDepths_any v u N ps W (h.below hW) (hp.below hW) hg)
  have CO := Lib.hid (fun (W : World) (hW : Below w.heap.size w W) => l1Own_any x vals W (hv.below hW) (by omega))
  obtain ⟨ve, vi, vn, rfl, he, hi, hn⟩ := h
  obtain ⟨A1, c1, rfl, -, -, -⟩ := hi
  obtain ⟨A2, c2, rfl, -, -, -⟩ := hn
  obtain ⟨A, c, rfl, hnc, hm, hx⟩ := he
  obtain ⟨A3, c3, rfl, hnc3, hm3, hx3⟩ := hp
  unfold maxLen at hm hm3
  obtain ⟨b, off, rfl, -, hc⟩ := hx (by omega)
  obtain ⟨b3, off3, rfl, -, hc3⟩ := hx3 (by omega)
  have HC := Lib.hid hc
  have HC3 := Lib.hid hc3
  have hb0 : ∀ o1, Below w.heap.size w (w.alloc o1) := fun o1 => (Below.refl _ _).alloc (Nat.le_refl _) _
  have HB0 := Lib.hid hb0
  clear hc hc3 hx hx3 hv ht hg hpl hvl hvb hb0
  go_enter Try.func59, Try.ntmps59
  go_wp2_with fail
  refine (CD.out _ (HB0.out _)).mono ?_
  rintro e wd ⟨hbd, hres⟩
  rcases hres with ⟨r', ds', vd, htr, rfl, hod⟩ | ⟨hno, rfl⟩
  case inr => exact absurd ⟨r, ds, HTR.out⟩ hno
  obtain ⟨rfl, rfl⟩ := TreeAt.unique htr HTR.out
  have HBD := Lib.hid (Below.then_ (HB0.out _) hbd)
  have HKD := Lib.hid (Blk.below (Blk.new w _ _) hbd)
  have HOD := Lib.hid hod.ints
  have hdl : ds'.length = ps.length := htr.2.2.2.2.1
  obtain ⟨gd, cd, rfl, -, hgd, hd1, hd2⟩ := hod.addr (by omega)
  have HCD : Hid (∀ j, j < ps.length → wd.cell? ⟨gd, j, none⟩ = some (.int .i64 (gi ds' j))) := fun j hj => (hod.at_ rfl (by omega)).1
  rw [hdl] at hd1 ⊢
  have HDL := Lib.hid hdl
  clear hbd htr hod CD hdl
  go_wp2_with fail
  refine (CO.out _ HBD.out).mono ?_
  rintro e w1 ⟨vs, rfl, hos, hbs⟩
  obtain ⟨g, cs, rfl, hgs, hgw, hs1, hs2⟩ := hos.addr (by have := HVL.out; omega)
  have hos' : OwnI w1 wd.heap.size (.slice (some ⟨g, 0, none⟩) ps.length cs) vals := by rw [HVL.out] at hos; exact hos
  rw [HVL.out] at hs1 ⊢
  have HOS := Lib.hid hos'
  have HBS := Lib.hid hbs
  have HST := Lib.hid (SInv.start (par N ps) r' (V := fun u => decide ((ps.length : Int) < gi ds' u)) HVL.out (fun u hu => by
    have := (HTR.out.zero hu).2.2
    simp; omega) HVB.out)
  clear hbs hos hos' CO HVB
  go_wp2_with fail
  go_loopw [12, 13] (fun hh dd wr => ∃ (d : Nat) (s : List Int) (h : Int), d ≤ ps.length ∧ dd = .int .i64 d ∧ hh = .int .i64 h ∧ h ≤ 40 ∧ OwnI wr wd.heap.size (.slice (some ⟨g, 0, none⟩) ps.length cs) s ∧
      SInv ps.length (par N ps) r' (ps.length * 1000000) vals s (fun u => decide ((d : Int) < gi ds' u)) ∧ HInv ps.length ds' h (fun u => decide ((d : Int) < gi ds' u)) ∧ Below wd.heap.size wd wr)
    (fun _ dd _ => (intOf dd).toNat)
  case atStart =>
    refine ⟨ps.length, vals, 0, Nat.le_refl _, rfl, rfl, by omega, HOS.out, HST.out.1, ⟨by omega, fun u hu h => ?_, .inl rfl⟩, HBS.out⟩
    have := (HTR.out.zero hu).2.2
    simp at h
    omega
  case round =>
    obtain ⟨wo, rfl⟩ : ∃ wo : World, wo = wr := ⟨_, rfl⟩
    obtain ⟨d, s, h, hd, rfl, rfl, hh, hown, hinv, hhi, hbel⟩ := hrel
    have HOW := Lib.hid hown
    have HIN := Lib.hid hinv
    have HHI := Lib.hid hhi
    have HBE := Lib.hid hbel
    have hh0 : 0 ≤ h := hhi.1
    clear hown hinv hhi hbel
    by_cases hd0 : 0 < d
    · go_wp2
      go_loopw [12, 33] (fun hh i wr => ∃ (k : Nat) (s : List Int) (h : Int), k ≤ ps.length ∧ i = .int .i64 k ∧ hh = .int .i64 h ∧ h ≤ 40 ∧ OwnI wr wd.heap.size (.slice (some ⟨g, 0, none⟩) ps.length cs) s ∧
          SInv ps.length (par N ps) r' (ps.length * 1000000) vals s (fun u => decide ((d : Int) < gi ds' u ∨ gi ds' u = d ∧ u < k)) ∧ HInv ps.length ds' h (fun u => decide ((d : Int) < gi ds' u ∨ gi ds' u = d ∧ u < k)) ∧ Below wd.heap.size wd wr)
        (fun _ i _ => ps.length - (intOf i).toNat)
      case atStart =>
        have e0 : (fun u => decide ((d : Int) < gi ds' u ∨ gi ds' u = d ∧ u < 0)) = (fun u => decide ((d : Int) < gi ds' u)) := by funext u; simp
        exact ⟨0, s, h, Nat.zero_le _, rfl, rfl, hh, HOW.out, by rw [e0]; exact HIN.out, by rw [e0]; exact HHI.out, HBE.out⟩
      case round =>
        clear HOW HIN HHI HBE hh hh0
        obtain ⟨k, s, h, hk, rfl, rfl, hh, hown, hinv, hhi, hbel⟩ := hrel
        have HOW := Lib.hid hown
        have HIN := Lib.hid hinv
        have HHI := Lib.hid hhi
        have HBE := Lib.hid hbel
        have hh0 : 0 ≤ h := hhi.1
        clear hown hinv hhi hbel
        by_cases hlt : k < ps.length
        · have hck : wr.cell? ⟨gd, k, none⟩ = some (.int .i64 (gi ds' k)) := by rw [HBE.out.cell (by exact hgd)]; exact HCD.out k hlt
          by_cases hdk : gi ds' k = d
          · have e2 : (gi ds' k == (d : Int)) = true := by simp [hdk]
            have hkr : k ≠ r' := fun e => by have := (HTR.out.zero hlt).1.2 e; omega
            obtain ⟨hp1, hp2, hp3, hp4⟩ := par_lt HG.out HTR.out.1 hlt (HTR.out.2.2.2.1 k hlt) hkr
            obtain ⟨hpd1, hpd2, hpd3⟩ := HTR.out.par HG.out hlt hkr
            obtain ⟨u, hu, A4, c4, rfl, hn4, hm4, hc4⟩ := HC.out k (by omega)
            unfold maxLen at hm4
            obtain ⟨b4, off4, rfl, -, hc4'⟩ := hc4 (by omega)
            have hq1 := (hc4' (gi ps k).toNat hp4).1
            rw [hp2] at hq1
            have hc5 := HC3.out k hlt
            obtain ⟨p, hpe⟩ : ∃ p, p = gi ps k := ⟨_, rfl⟩
            rw [← hpe] at hq1 hc5 hp3 hp4
            have hBB : Below w.heap.size w wr := Below.thenB HBD.out HBE.out HBD.out.size
            have i1 : wr.cell? ⟨b, off + k, none⟩ = some (.slice (some ⟨b4, off4, none⟩) (gl N.ends k).length c4) := (hBB.cell (p := ⟨b, off + k, none⟩) (lt_of_cell hu)).trans hu
            have i2 : wr.cell? ⟨b3, off3 + k, none⟩ = some (.int .i64 p) := (hBB.cell (p := ⟨b3, off3 + k, none⟩) (lt_of_cell hc5)).trans hc5
            have i3 : wr.cell? ⟨b4, off4 + p.toNat * 2, none⟩ = some (.int .i64 (par N ps k : Nat)) := (hBB.cell (p := ⟨b4, off4 + p.toNat * 2, none⟩) (lt_of_cell hq1)).trans hq1
            have i4 := (HKD.out.below HBE.out).cell
            have hsl : ps.length = s.length := HIN.out.len.symm
            obtain ⟨i5, -⟩ := HOW.out.at_ hsl hlt
            obtain ⟨i6, i7⟩ := HOW.out.at_ hsl hp1
            have hab1 := HIN.out.abs hlt
            have hab2 := HIN.out.abs hp1
            have HNE : Hid (par N ps k ≠ k) := fun e => by rw [e] at hpd2; omega
            have hst := HIN.out.step (V' := fun u => decide ((d : Int) < gi ds' u ∨ gi ds' u = d ∧ u < k + 1)) hlt hkr (by simp [hdk]) hp1 (by simp; omega) HNE.out (fun u hu => by
              simp only [decide_eq_true_eq]
              by_cases h3 : u = k
              · subst h3; omega
              · omega)
            have HHN : Hid (HInv ps.length ds' (max h d) (fun u => decide ((d : Int) < gi ds' u ∨ gi ds' u = d ∧ u < k + 1))) := by
              refine ⟨by omega, fun u hu h1 => ?_, ?_⟩
              · simp only [decide_eq_true_eq] at h1
                by_cases h3 : gi ds' u = d
                · omega
                · have := HHI.out.2.1 u hu (by simp; omega)
                  omega
              · by_cases h3 : h ≤ d
                · exact .inr ⟨k, hlt, by omega⟩
                · rcases HHI.out.2.2 with h4 | ⟨u, hu, h4⟩
                  · omega
                  · exact .inr ⟨u, hu, by omega⟩
            have hpn : par N ps k < ps.length := hp1
            obtain ⟨q, hq⟩ : ∃ q, q = par N ps k := ⟨_, rfl⟩
            obtain ⟨sk, hsk⟩ : ∃ sk, sk = gi s k := ⟨_, rfl⟩
            obtain ⟨sq, hsq⟩ : ∃ sq, sq = gi s q := ⟨_, rfl⟩
            rw [← hq] at i3 i6 i7 hst hpn hab2
            rw [← hsk] at i5 hst hab1
            rw [← hsq] at i6 hst hab2
            have HST := Lib.hid hst
            have j0 : -40000000 ≤ sk ∧ sk ≤ 40000000 ∧ -40000000 ≤ sq ∧ sq ≤ 40000000 := by
              have : (ps.length : Int) * 1000000 ≤ 40000000 := by omega
              omega
            obtain ⟨j5, j6, j7, j8⟩ := j0
            have j1 : (0 : Int) ≤ (k : Int) := by omega
            have j2 : (k : Int) < (N.ends.length : Int) := by omega
            have j3 : (k : Int) < (ps.length : Int) := by omega
            have j4 : p < ((gl N.ends k).length : Int) := by omega
            have j9 : (0 : Int) ≤ (q : Int) := by omega
            have j10 : (q : Int) < (ps.length : Int) := by omega
            have hw1 : IntKind.i64.wrap (sq + sk) = sq + sk := IntWalk.i64_in _ (by omega)
            have HOP := Lib.hid (HOW.out.put hsl (j := q) (sq + sk))
            have HBP := Lib.hid (HBE.out.setCell (p := ⟨g, q, none⟩) hgs (.int .i64 (sq + sk)))
            clear hc4 hc4' hq1 hc5 hpe hp2 hu hBB hst hab1 hab2 hdk hq hsk hsq hpd1 hpd2 hpd3 hsl hp1
            go_wp2
            go_still_tail 21, (by kernel_rfl)
            change wpList _ _ _ _ _ wr.drew
            go_wp2_with (go_at_call 99; refine (l1Most_any _ _ _).mono ?_; rintro e w2 ⟨rfl, rfl⟩)
            go_roundw
            case rel => exact ⟨k + 1, s.set q (sq + sk), max h d, by omega, by go_num, rfl, by omega, HOP.out, HST.out.1, HHN.out, HBP.out.drew⟩
            case measure => simp [intOf]; omega
          · have e2 : (gi ds' k == (d : Int)) = false := by simp [hdk]
            have e0 : Hid ((fun u => decide ((d : Int) < gi ds' u ∨ gi ds' u = d ∧ u < k + 1)) = (fun u => decide ((d : Int) < gi ds' u ∨ gi ds' u = d ∧ u < k))) := by
              funext u
              by_cases h3 : u = k
              · subst h3; simp [hdk]
              · have : u < k + 1 ↔ u < k := by omega
                simp [this]
            clear hdk
            go_wp2
            go_roundw
            case rel => exact ⟨k + 1, s, h, by omega, by go_num, rfl, hh, HOW.out, by rw [e0.out]; exact HIN.out, by rw [e0.out]; exact HHI.out, HBE.out⟩
            case measure => simp [intOf]; omega
        · obtain rfl : k = ps.length := by omega
          have e0 : ∀ u, u < ps.length → decide (((d - 1 : Nat) : Int) < gi ds' u) = decide ((d : Int) < gi ds' u ∨ gi ds' u = d ∧ u < ps.length) := by
            intro u hu
            rw [decide_eq_decide]
            omega
          have HE0 := Lib.hid e0
          clear e0
          go_wp2
          go_roundw
          case rel =>
            refine ⟨d - 1, s, h, by omega, by go_num, rfl, hh, HOW.out, (HIN.out.congr HE0.out).1, ⟨HHI.out.1, fun u hu h1 => HHI.out.2.1 u hu (by show decide _ = true; rw [← HE0.out u hu]; exact h1), HHI.out.2.2⟩, HBE.out⟩
          case measure => simp [intOf]; omega
    · obtain rfl : d = 0 := by omega
      go_wp2
      go_ret2
      refine ⟨_, s, h, rfl, HOW.out.mono HBD.out.size, (HIN.out.final fun u hu hr => ?_).1, fun u hu => ?_, ⟨fun u hu => ?_, ?_⟩, Below.thenB HBD.out HBE.out HBD.out.size⟩
      · have := HTR.out.zero hu
        have h1 : gi ds' u ≠ 0 := fun e => hr (this.1.1 e)
        simp; omega
      · have := HIN.out.abs hu
        omega
      · have hu' : u < ps.length := by rw [← HDL.out]; exact hu
        have h1 := HTR.out.zero hu'
        by_cases h2 : gi ds' u = 0
        · have := HHI.out.1; omega
        · exact HHI.out.2.1 u hu' (by simp; omega)
      · rcases HHI.out.2.2 with h1 | ⟨u, hu, h1⟩
        · exact ⟨r', by rw [HDL.out]; exact HTR.out.2.1, by rw [h1]; exact (HTR.out.zero HTR.out.2.1).1.2 rfl⟩
        · exact ⟨u, by rw [HDL.out]; exact hu, h1⟩
end Go.Proofs.Ytcjghlplkbpjcaa
