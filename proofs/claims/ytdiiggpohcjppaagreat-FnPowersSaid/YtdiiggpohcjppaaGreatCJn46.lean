/- Parts of the proof, joined: Dme, Dgc, Dad, Deq, Dme3, Dme4, Dme5, Dgs, Dms, Dmp. -/
import Derived.Test.YtdiiggpohcjppaaGreatCJn44
import Derived.Test.YtdiiggpohcjppaaGreatCJn31
import Derived.Test.YtdiiggpohcjppaaGreatCMtr2
import Derived.Test.YtdiiggpohcjppaaGreatCJn26
import Derived.Test.YtdiiggpohcjppaaGreatCPwp
import Derived.Test.YtdiiggpohcjppaaGreatCJn34
import Derived.Test.YtdiiggpohcjppaaGreatCJn29
import Derived.Test.YtdiiggpohcjppaaGreatCDmm
import Derived.Test.YtdiiggpohcjppaaGreatCDso
import Derived.Test.YtdiiggpohcjppaaGreatCDlo
set_option linter.unusedSimpArgs false
set_option linter.unusedVariables false
namespace Go.Proofs.YtdiiggpohcjppaaGreat
section
open Go Go.RowKit
theorem dh {N : Net} (hg : bz N = true) : Sym N.ends ∧ (1 ≤ N.ends.length ∧ N.ends.length ≤ 40) ∧ N.ids.length ≤ 2097152 ∧ ∀ a, (gl N.ends a).length ≤ 1000 := by
 have hn := Hw hg
 refine ⟨(Kc hg).sym, hn, by have := R1 hg; omega, fun a => ?_⟩
 rcases Nat.lt_or_ge a N.ends.length with h | h
 ·have := R2 hg h; omega
 ·have : gl N.ends a = [] := by unfold gl; rw [List.getD_eq_getElem?_getD, List.getElem?_eq_none h]; rfl
  rw [this]; simp
end
section
set_option maxHeartbeats 0
set_option maxRecDepth 8000
open Go Go.RowKit
theorem om (o : Bool) (t : TypeId) (xs : List Int) (n : Nat) (hn : n ≤ 1048576) : DCalls Tryz.prog 94 [.c (.sl o t 1 (xs.map iC)), .c (.p (.int .i64 n))] (fun r => r = [.c (.p (.bool (dx xs n)))]) := jn fun w vs h1 h2 => by
 obtain ⟨u, v, rfl, g1, g2⟩ := Sv h1 h2
 rw [Cq g2]
 exact uq u xs n w (vl g1) hn
def zBDgc1 := PLift.up (And.intro an (And.intro bb (And.intro cl (And.intro bm (And.intro bj (And.intro @if_pos.{1} (And.intro @b7 (And.intro bn (And.intro @b4 (And.intro @b0 (And.intro @br (And.intro @a7 (And.intro @a6 @trivial)))))))))))))
theorem xi : type_of% zBDgc1.down := zBDgc1.down
theorem qw (f : NF) (N : Net) (o : Bool) (t : TypeId) (xs : List Int) (hg : bz N = true) (hp : dx xs N.ends.length = true) : DCalls Tryz.prog 84 [.agg (bv f N), .c (.sl o t 1 (xs.map iC))] (fun r => r = [.c (.p (.bool true))]) := by -- params impl.Network, []int
 obtain ⟨hs, hn, hids, hdg⟩ := dh hg
 refine ao Tryz.func84 rfl (by rw [Tryz.ntmps84]; simp) fun w0 => ?_
 rw [Tryz.ntmps84]
 have dfx := xi
 simp only [ce, be, Arg.av, bv, cm, ints, ends]
 refine ab (dwR fun K hK => ?_)
 repeat refine evF ?_
 refine aa (hK _ (dwK [1, 2] ?_))
 clear hK K
 refine ab (dwR fun K hK => ?_)
 repeat refine evF ?_
 refine clF rfl ⟨rfl, _, rfl⟩ (by omega) (by first | exact pg | exact L8) (f6 ⟨false, f.t1, f.o2, f.t2, false, f.t3, false, f.t4⟩ N hids) ?_
 rintro _ rfl
 repeat refine evF ?_
 have dfx := And.intro dfx (@hg)
 repeat refine evF ?_
 have dfx := And.intro dfx (@hg)
 refine cgF rfl rfl ⟨rfl, _, rfl⟩ (by omega) (by first | exact pg | exact L8) (om o t xs N.ends.length (by omega)) ?_
 rintro _ rfl
 repeat refine evF ?_
 have dfx := And.intro dfx (And.intro @hg @hp)
 repeat refine evF ?_
 have dfk := And.intro @hg @hp
 refine aa (hK _ (a8 [4] ?_))
 clear hK K
 exact ak (aq Tryz.results84 (.one (.plain _ _ rfl)) (by decide) rfl)
theorem N4 (N : Net) (v : Nat) : fy N v (gl N.ends v).length = (gl N.ends v).map Prod.fst := by simp [fy]
theorem Wv (f : NF) (N : Net) (v : Nat) (o : Bool) (t : TypeId) (out : List Int) (hg : bz N = true) (hv : v < N.ends.length) (ho : out.length = N.ends.length) : DCalls Tryz.prog 130 [.agg (bv f N), .c (.p (.int .i64 v)), .c (.sl o t 1 (out.map iC))] (fun r => r = [.own false [.sl true 3 1 ((atL out ((gl N.ends v).map Prod.fst)).map iC)]]) := by -- params impl.Network, int, []int
 obtain ⟨hs, hn, hids, hdg⟩ := dh hg
 have hd := hdg v
 refine ao Tryz.func130 rfl (by rw [Tryz.ntmps130]; simp) fun w0 => ?_
 rw [Tryz.ntmps130]
 have dfx := xi
 simp only [ce, be, Arg.av, bv, cm, ints, ends]
 refine ab (dwR fun K hK => ?_)
 repeat refine evF ?_
 refine aa (hK _ (dwK [1, 2, 3] ?_))
 clear hK K
 refine ab (dwR fun K hK => ?_)
 repeat refine evF ?_
 refine aa (hK _ (dwK [1, 2, 3, 7] ?_))
 clear hK K
 refine ab ?_
 have dfx := And.intro dfx (@Int.toNat_natCast)
 refine ab (dwR fun K hK => ?_)
 repeat refine evF ?_
 refine aa (hK _ (dwK [2, 7, 14, 15, 16] ?_))
 clear hK K
 refine ae ?_
 refine jw 7 3 1 (by decide) (by simp only [ac, C.at, C.put, List.dropLast, List.isPrefixOf, simprocAttr]) [2, 7, 14, 15, 16] (by simp only [ac, C.at, C.put, List.dropLast, List.isPrefixOf, simprocAttr]; exact rfl) ?_
 refine ax (X := Nat) (fun k => k ≤ (gl N.ends v).length) (fun k => [(16, .c (.p (.int .i64 k)))]) (fun k => [((7, 0), ⟨none, [.sl true 3 1 ((atL out (fy N v k)).map iC)]⟩)]) (fun k => (gl N.ends v).length - k) 0 (Nat.zero_le _) (by first | rfl | (simp only [ac, C.at, C.put, List.dropLast, List.isPrefixOf, simprocAttr, Int.natCast_zero] <;> rfl)) ?_
 rintro k hk
 intro E hE
 simp only [ac, C.at, C.put, List.dropLast, List.isPrefixOf, simprocAttr] at hE
 subst hE
 have hnl : (atL out (fy N v k)).length = k := by rw [vg, ui hk]
 refine ab (dwR fun K hK => ?_)
 repeat refine evF ?_
 refine aa (hK _ (dwK [2, 7, 14, 15, 16, 17] ?_))
 clear hK K
 refine ab (dwI (fun hb => ?_) (fun hb => ?_))
 ·have hk1 : k < (gl N.ends v).length := by simpa using hb
  have hgp : (gp (gl N.ends v) k).1 = ((nd N v k : Nat) : Int) := by rw [(ff hs hv hk1).2.2.2.2]
  have hxl := (ff hs hv hk1).1
  have hns : atL out (fy N v (k + 1)) = atL out (fy N v k) ++ [gi out (nd N v k)] := by rw [Do hk1, Il, hgp, Int.toNat_natCast]
  refine ai ?_
  show DW _ _ _ _ _
  refine ab (ae ?_)
  have dfx := And.intro dfx (@hgp)
  refine ab (dwR fun K hK => ?_)
  repeat refine evF ?_
  have dfk := @hgp
  refine aa (hK _ (a8 [2, 7, 9, 14, 15, 16] ?_))
  clear hK K
  have dfx := And.intro dfx (And.intro @Int.toNat_natCast @hgp)
  refine dwR fun K hK => ?_
  repeat refine evF ?_
  have dfk := And.intro @fo @hgp
  refine aa (hK _ (a8 [2, 7, 14, 15, 16] ?_))
  clear hK K
  refine dwR fun K hK => ?_
  repeat refine evF ?_
  have dfk := And.intro @cd @hns
  refine aa (hK _ ?_)
  clear hK K
  show ∃ x, _ ∧ _ ∧ Weak _ _
  refine ⟨k + 1, ?_, ?_, ay [2, 7, 14, 15, 16]⟩
  ·omega
  ·omega
 ·have hk2 : k = (gl N.ends v).length := by
   have : ¬ k < (gl N.ends v).length := by simpa using hb
   omega
  refine ap ?_
  refine bc [7] (by simp only [ac, C.at, C.put, List.dropLast, List.isPrefixOf, simprocAttr]; exact rfl) ?_
  refine ab (dwR fun K hK => ?_)
  repeat refine evF ?_
  refine aa (hK _ (dwK [6] ?_))
  clear hK K
  exact ak (aq Tryz.results130 (.one (.own _ _ _ _ rfl rfl (own1 (cq _ _)))) (by decide) (by rw [hk2, N4]))
theorem po {xs : List Int} {x : Int} : 0 ≤ sx xs x ↔ x ∈ xs := by
 unfold sx
 rcases nz xs.length fun j => gi xs j == x with ⟨h1, h2⟩ | ⟨m, h1, h2, h3, -⟩
 ·rw [h1]
  refine ⟨fun h => absurd h (by decide), fun h => ?_⟩
  obtain ⟨j, hj, rfl⟩ := List.getElem_of_mem h
  have := h2 j hj
  rw [b6 hj] at this
  simp at this
 ·rw [h1]
  refine ⟨fun _ => ?_, fun _ => by omega⟩
  have h3 : gi xs m = x := by simpa using h3
  rw [← h3, b6 h2]
  exact List.getElem_mem h2
theorem ya (o : Bool) (t : TypeId) (xs : List Int) (hl : xs.length ≤ 1000000) : DCalls Tryz.prog 86 [.c (.sl o t 1 (xs.map iC))] (fun r => r = [.c (.p (.int .i64 (l6 xs)))]) := by -- params []int
 refine ao Tryz.func86 rfl (by rw [Tryz.ntmps86]; simp) fun w0 => ?_
 rw [Tryz.ntmps86]
 have dfx := xi
 simp only [ce, be, Arg.av, bv, cm, ints, ends]
 refine ab (dwR fun K hK => ?_)
 repeat refine evF ?_
 refine aa (hK _ (dwK [0] ?_))
 clear hK K
 refine ab (dwR fun K hK => ?_)
 repeat refine evF ?_
 refine aa (hK _ (dwK [0, 3] ?_))
 clear hK K
 refine ab (ae ?_)
 refine ax (X := Nat) (fun c => ∀ j : Nat, j < c → (j : Int) ∈ xs) (fun c => [(3, .c (.p (.int .i64 c)))]) (fun c => []) (fun c => xs.length + 1 - c) 0 (fun j hj => absurd hj (Nat.not_lt_zero _)) (by first | rfl | (simp only [ac, C.at, C.put, List.dropLast, List.isPrefixOf, simprocAttr, Int.natCast_zero] <;> rfl)) ?_
 rintro c hc
 intro E hE
 simp only [ac, C.at, C.put, List.dropLast, List.isPrefixOf, simprocAttr] at hE
 subst hE
 have hcl := pig c xs hc
 refine ab ?_
 refine ab (dwR fun K hK => ?_)
 repeat (apply cg; (focus exact rfl); (focus (simp (disch := first | omega | (intros; contradiction)) only [ac, bd, C.at, C.put, List.dropLast, List.isPrefixOf, simprocAttr, an, bb, cl, bm, bj, if_pos, b7, bn, b4, b0, br, a7, a6 , pi]; exact rfl)))
 refine ee rfl ⟨rfl, _, rfl⟩ (by omega) (by first | exact pi) (by simp (disch := first | omega | (intros; contradiction)) only [ac, bd, C.at, C.put, List.dropLast, List.isPrefixOf, simprocAttr, an, bb, cl, bm, bj, if_pos, b7, bn, b4, b0, br, a7, a6 , pi] <;> exact rfl) (B8 o t xs c hl) ?_
 rintro _ rfl
 repeat (apply cg; (focus exact rfl); (focus (simp (disch := first | omega | (intros; contradiction)) only [ac, bd, C.at, C.put, List.dropLast, List.isPrefixOf, simprocAttr, an, bb, cl, bm, bj, if_pos, b7, bn, b4, b0, br, a7, a6 , pi]; exact rfl)))
 refine aa (hK _ (dwK [0, 3, 6] ?_))
 clear hK K
 refine dwI (fun hb => ?_) (fun hb => ?_)
 ·have hm : (c : Int) ∈ xs := po.1 (by simpa using hb)
  have hc2 : ∀ j : Nat, j < c + 1 → (j : Int) ∈ xs := fun j hj => by
   rcases Nat.lt_or_ge j c with h | h
   ·exact hc j h
   ·rw [show j = c by omega]; exact hm
  have hcl2 := pig (c + 1) xs hc2
  refine ai ?_
  show DW _ _ _ _ _
  refine ae ?_
  refine dwR fun K hK => ?_
  repeat refine evF ?_
  have dfk := @cd
  refine aa (hK _ ?_)
  clear hK K
  show ∃ x, _ ∧ _ ∧ Weak _ _
  refine ⟨c + 1, ?_, ?_, ay [0, 3]⟩
  ·exact hc2
  ·omega
 ·have hm : (c : Int) ∉ xs := fun h => by
   have : ¬ (0 ≤ sx xs c) := by simpa using hb
   exact this (po.2 h)
  refine ap ?_
  refine bc [3] (by simp only [ac, C.at, C.put, List.dropLast, List.isPrefixOf, simprocAttr]; exact rfl) ?_
  refine ab (dwR fun K hK => ?_)
  repeat refine evF ?_
  refine aa (hK _ (dwK [2] ?_))
  clear hK K
  exact ak (aq Tryz.results86 (.one (.plain _ _ rfl)) (by decide) (by rw [On hm hc]))
def nbs (N : Net) (v : Nat) : List Int := (gl N.ends v).map Prod.fst
theorem ta (f : NF) (N : Net) (o : Bool) (t : TypeId) (ord : List Int) (hg : bz N = true) (hp : dx ord N.ends.length = true) : DCalls Tryz.prog 87 [.agg (bv f N), .c (.sl o t 1 (ord.map iC))] (fun r => r = [.own false [.sl true 3 1 ((ch (nbs N) ord N.ends.length N.ends.length).map iC)]]) := by -- params impl.Network, []int
 obtain ⟨hs, hn, hids, hdg⟩ := dh hg
 obtain ⟨hol, hoi, hod⟩ := lz hp
 refine ao Tryz.func87 rfl (by rw [Tryz.ntmps87]; simp) fun w0 => ?_
 rw [Tryz.ntmps87]
 have dfx := xi
 simp only [ce, be, Arg.av, bv, cm, ints, ends]
 refine ab (dwR fun K hK => ?_)
 repeat refine evF ?_
 refine aa (hK _ (dwK [1, 2] ?_))
 clear hK K
 refine ab (dwR fun K hK => ?_)
 repeat refine evF ?_
 refine clF rfl ⟨rfl, _, rfl⟩ (by omega) (by first | exact Vo) (uh ⟨false, f.t1, f.o2, f.t2, false, f.t3, false, f.t4⟩ N (by omega)) ?_
 rintro _ rfl
 repeat refine evF ?_
 refine aa (hK _ (dwK [1, 2, 5] ?_))
 clear hK K
 refine ab ?_
 have dfx := And.intro dfx (@hol)
 refine ab (dwR fun K hK => ?_)
 repeat refine evF ?_
 have dfk := @hol
 refine aa (hK _ (a8 [2, 5, 10, 11, 12] ?_))
 clear hK K
 refine ae ?_
 refine ax (X := Nat) (fun k => k ≤ N.ends.length) (fun k => [(12, .c (.p (.int .i64 k)))]) (fun k => [((5, 0), ⟨none, [.sl true 3 1 ((ch (nbs N) ord N.ends.length k).map iC)]⟩)]) (fun k => N.ends.length - k) 0 (Nat.zero_le _) (by first | rfl | (simp only [ac, C.at, C.put, List.dropLast, List.isPrefixOf, simprocAttr, Int.natCast_zero, ch] <;> rfl)) ?_
 rintro k hk
 intro E hE
 simp only [ac, C.at, C.put, List.dropLast, List.isPrefixOf, simprocAttr] at hE
 subst hE
 have hgl : (ch (nbs N) ord N.ends.length k).length = N.ends.length := j8 k
 refine ab (dwR fun K hK => ?_)
 repeat refine evF ?_
 refine aa (hK _ (dwK [2, 5, 10, 11, 12, 13] ?_))
 clear hK K
 refine ab (dwI (fun hb => ?_) (fun hb => ?_))
 ·have hk1 : k < N.ends.length := by simpa using hb
  obtain ⟨v, hve⟩ : ∃ v : Nat, gi ord k = v := ⟨(gi ord k).toNat, by have := hoi k hk1; omega⟩
  have hvl : v < N.ends.length := by have := hoi k hk1; omega
  have hns : ch (nbs N) ord N.ends.length (k + 1) = (ch (nbs N) ord N.ends.length k).set v (l6 (atL (ch (nbs N) ord N.ends.length k) ((gl N.ends v).map Prod.fst)) : Nat) := by rw [ch, hve, Int.toNat_natCast]; rfl
  have hdv := hdg v
  refine ai ?_
  show DW _ _ _ _ _
  refine ab (ae ?_)
  have dfx := And.intro dfx (@hve)
  refine ab (dwR fun K hK => ?_)
  repeat refine evF ?_
  have dfk := @hve
  refine aa (hK _ (a8 [2, 5, 7, 10, 11, 12] ?_))
  clear hK K
  refine dwR fun K hK => ?_
  repeat refine evF ?_
  refine clF rfl ⟨rfl, _, rfl⟩ (by omega) (by first | exact Rp | exact Re) (Wv ⟨false, f.t1, f.o2, f.t2, false, f.t3, false, f.t4⟩ N v true 3 (ch (nbs N) ord N.ends.length k) hg hvl hgl) ?_
  rintro _ rfl
  repeat refine evF ?_
  have dfx := And.intro dfx (@Int.toNat_natCast)
  refine clF rfl ⟨rfl, _, rfl⟩ (by omega) (by first | exact Rp | exact Re) (ya true 3 (atL (ch (nbs N) ord N.ends.length k) ((gl N.ends v).map Prod.fst)) (by rw [vg, List.length_map]; omega)) ?_
  rintro _ rfl
  repeat refine evF ?_
  have dfk := @Al
  refine aa (hK _ (a8 [2, 5, 10, 11, 12] ?_))
  clear hK K
  refine dwR fun K hK => ?_
  repeat refine evF ?_
  have dfk := And.intro @cd @hns
  refine aa (hK _ ?_)
  clear hK K
  show ∃ x, _ ∧ _ ∧ Weak _ _
  refine ⟨k + 1, ?_, ?_, ay [2, 5, 10, 11, 12]⟩
  ·omega
  ·omega
 ·have hk2 : k = N.ends.length := by
   have : ¬ k < N.ends.length := by simpa using hb
   omega
  refine ap ?_
  refine bc [5] (by simp only [ac, C.at, C.put, List.dropLast, List.isPrefixOf, simprocAttr]; exact rfl) ?_
  refine ab (dwR fun K hK => ?_)
  repeat refine evF ?_
  refine aa (hK _ (dwK [4] ?_))
  clear hK K
  exact ak (aq Tryz.results87 (.one (.own _ _ _ _ rfl rfl (own1 (cq _ _)))) (by decide) (by rw [hk2]))
theorem vq (f : NF) (N : Net) (o : Bool) (t : TypeId) (ord : List Int) (hg : bz N = true) (hp : dx ord N.ends.length = true) : DCalls Tryz.prog 33 [.agg (bv f N), .c (.sl o t 1 (ord.map iC))] (fun r => r = [.own false [.sl true 3 1 ((ch (nbs N) ord N.ends.length N.ends.length).map iC)], .c (.p (.bool true))]) := by -- params impl.Network, []int
 refine ao Tryz.func33 rfl (by rw [Tryz.ntmps33]; simp) fun w0 => ?_
 rw [Tryz.ntmps33]
 have dfx := xi
 simp only [ce, be, Arg.av, bv, cm, ints, ends]
 refine ab (dwR fun K hK => ?_)
 repeat refine evF ?_
 refine aa (hK _ (dwK [1, 2] ?_))
 clear hK K
 refine ab ?_
 refine ab (dwR fun K hK => ?_)
 repeat refine evF ?_
 refine clF rfl ⟨rfl, _, rfl⟩ (by omega) (by first | exact Bb) (qw ⟨false, f.t1, f.o2, f.t2, false, f.t3, false, f.t4⟩ N o t ord hg hp) ?_
 rintro _ rfl
 repeat refine evF ?_
 refine aa (hK _ (dwK [1, 2, 9] ?_))
 clear hK K
 refine dwI (fun hb => ?_) (fun hb => ?_)
 ·cases hb
 ·refine ai ?_
  show DW _ _ _ _ _
  refine ab (dwR fun K hK => ?_)
  repeat refine evF ?_
  refine clF rfl ⟨rfl, _, rfl⟩ (by omega) (by first | exact Zc) (ta ⟨false, f.t1, f.o2, f.t2, false, f.t3, false, f.t4⟩ N o t ord hg hp) ?_
  rintro _ rfl
  repeat refine evF ?_
  refine aa (hK _ (dwK [4, 5] ?_))
  clear hK K
  exact ak (aq Tryz.results33 (.two (.own _ _ _ _ rfl rfl (own1 (cq _ _))) (.plain _ _ rfl)) (by decide) rfl)
theorem k9 (f : NF) (N : Net) (o : Bool) (t : TypeId) (ord : List Int) (m : Nat) (hg : bz N = true) (hp : dx ord N.ends.length = true) (hm1 : 1 ≤ m) (hm2 : m ≤ 40) : DCalls Tryz.prog 32 [.agg (bv f N), .c (.sl o t 1 (ord.map iC)), .c (.p (.int .i64 m))] (fun r => r = [.own false [.sl true 3 1 ((ch (az N m) ord N.ends.length N.ends.length).map iC)], .c (.p (.bool true))]) := by -- params impl.Network, []int, int
 obtain ⟨hs, hn, hids, hdg⟩ := dh hg
 obtain ⟨hol, hoi, hod⟩ := lz hp
 have hin : inB (m : Int) 1 40 = true := cf.2 (by omega)
 refine ao Tryz.func32 rfl (by rw [Tryz.ntmps32]; simp) fun w0 => ?_
 rw [Tryz.ntmps32]
 have dfx := xi
 simp only [ce, be, Arg.av, bv, cm, ints, ends]
 refine ab (dwR fun K hK => ?_)
 repeat refine evF ?_
 refine aa (hK _ (dwK [1, 2, 3] ?_))
 clear hK K
 refine ab ?_
 refine ab (dwR fun K hK => ?_)
 repeat refine evF ?_
 refine clF rfl ⟨rfl, _, rfl⟩ (by omega) (by first | exact Bb | exact j3) (qw ⟨false, f.t1, f.o2, f.t2, false, f.t3, false, f.t4⟩ N o t ord hg hp) ?_
 rintro _ rfl
 repeat refine evF ?_
 refine cgF rfl rfl ⟨rfl, _, rfl⟩ (by omega) (by first | exact Bb | exact j3) (ft m 1 40) ?_
 rintro _ rfl
 repeat refine evF ?_
 have dfx := And.intro dfx (@hin)
 repeat refine evF ?_
 have dfk := @hin
 refine aa (hK _ (a8 [1, 2, 3, 22] ?_))
 clear hK K
 refine dwI (fun hb => ?_) (fun hb => ?_)
 ·cases hb
 ·refine ai ?_
  show DW _ _ _ _ _
  refine ab (dwR fun K hK => ?_)
  repeat refine evF ?_
  refine clF rfl ⟨rfl, _, rfl⟩ (by omega) (by first | exact Vo) (uh ⟨false, f.t1, f.o2, f.t2, false, f.t3, false, f.t4⟩ N (by omega)) ?_
  rintro _ rfl
  repeat refine evF ?_
  refine aa (hK _ (dwK [1, 2, 3, 8] ?_))
  clear hK K
  refine ab ?_
  have dfx := And.intro dfx (@hol)
  refine ab (dwR fun K hK => ?_)
  repeat refine evF ?_
  have dfk := @hol
  refine aa (hK _ (a8 [2, 3, 8, 25, 26, 27] ?_))
  clear hK K
  refine ae ?_
  refine ax (X := Nat) (fun k => k ≤ N.ends.length) (fun k => [(27, .c (.p (.int .i64 k)))]) (fun k => [((8, 0), ⟨none, [.sl true 3 1 ((ch (az N m) ord N.ends.length k).map iC)]⟩)]) (fun k => N.ends.length - k) 0 (Nat.zero_le _) (by first | rfl | (simp only [ac, C.at, C.put, List.dropLast, List.isPrefixOf, simprocAttr, Int.natCast_zero, ch] <;> rfl)) ?_
  rintro k hk
  intro E hE
  simp only [ac, C.at, C.put, List.dropLast, List.isPrefixOf, simprocAttr] at hE
  subst hE
  have hgl : (ch (az N m) ord N.ends.length k).length = N.ends.length := j8 k
  refine ab (dwR fun K hK => ?_)
  repeat refine evF ?_
  refine aa (hK _ (dwK [2, 3, 8, 25, 26, 27, 28] ?_))
  clear hK K
  refine ab (dwI (fun hb => ?_) (fun hb => ?_))
  ·have hk1 : k < N.ends.length := by simpa using hb
   obtain ⟨v, hve⟩ : ∃ v : Nat, gi ord k = v := ⟨(gi ord k).toNat, by have := hoi k hk1; omega⟩
   have hvl : v < N.ends.length := by have := hoi k hk1; omega
   have hns : ch (az N m) ord N.ends.length (k + 1) = (ch (az N m) ord N.ends.length k).set v (l6 (atL (ch (az N m) ord N.ends.length k) (az N m v)) : Nat) := by rw [ch, hve, Int.toNat_natCast]
   have hdl : (bo N v).length = N.ends.length := (di hs hvl).len
   have hnkl := ja (N := N) (k := m) v
   refine ai ?_
   show DW _ _ _ _ _
   refine ab (ae ?_)
   have dfx := And.intro dfx (@hve)
   refine ab (dwR fun K hK => ?_)
   repeat refine evF ?_
   have dfk := @hve
   refine aa (hK _ (a8 [2, 3, 8, 10, 25, 26, 27] ?_))
   clear hK K
   refine ab (dwR fun K hK => ?_)
   repeat refine evF ?_
   refine aa (hK _ (dwK [2, 3, 8, 10, 11, 25, 26, 27] ?_))
   clear hK K
   refine ab ?_
   have dfx := And.intro dfx (@hdl)
   refine ab (dwR fun K hK => ?_)
   repeat refine evF ?_
   have dfx := And.intro dfx (@hdl)
   refine clF rfl ⟨rfl, _, rfl⟩ (by omega) (by first | exact Rh) (jx ⟨false, f.t1, f.o2, f.t2, false, f.t3, false, f.t4⟩ N v hs hvl (by omega) hdg) ?_
   rintro _ rfl
   repeat refine evF ?_
   have dfk := @hdl
   refine aa (hK _ (a8 [2, 3, 8, 10, 11, 25, 26, 27, 33, 34, 35] ?_))
   clear hK K
   refine ae ?_
   refine jw 11 3 1 (by decide) (by simp only [ac, C.at, C.put, List.dropLast, List.isPrefixOf, simprocAttr]) [2, 3, 8, 10, 11, 25, 26, 27, 33, 34, 35] (by simp only [ac, C.at, C.put, List.dropLast, List.isPrefixOf, simprocAttr]; exact rfl) ?_
   refine ax (X := Nat) (fun u => u ≤ N.ends.length) (fun u => [(35, .c (.p (.int .i64 u)))]) (fun u => [((11, 0), ⟨none, [.sl true 3 1 ((atL (ch (az N m) ord N.ends.length k) (eb (fun w => inB (gi (bo N v) w) 1 m) u)).map iC)]⟩)]) (fun u => N.ends.length - u) 0 (Nat.zero_le _) (by first | rfl | (simp only [ac, C.at, C.put, List.dropLast, List.isPrefixOf, simprocAttr, Int.natCast_zero] <;> rfl)) ?_
   rintro u hu
   intro E hE
   simp only [ac, C.at, C.put, List.dropLast, List.isPrefixOf, simprocAttr] at hE
   subst hE
   have hul : (atL (ch (az N m) ord N.ends.length k) (eb (fun w => inB (gi (bo N v) w) 1 m) u)).length ≤ u := by rw [vg]; exact ug _ _
   refine ab (dwR fun K hK => ?_)
   repeat refine evF ?_
   refine aa (hK _ (dwK [2, 3, 8, 10, 11, 25, 26, 27, 33, 34, 35, 36] ?_))
   clear hK K
   refine ab (dwI (fun hb => ?_) (fun hb => ?_))
   ·have hu1 : u < N.ends.length := by simpa using hb
    refine ai ?_
    show DW _ _ _ _ _
    refine ab (ae ?_)
    have dfx := And.intro dfx (@Int.toNat_natCast)
    refine ab (dwR fun K hK => ?_)
    repeat refine evF ?_
    refine aa (hK _ (dwK [2, 3, 8, 10, 11, 12, 13, 25, 26, 27, 33, 34, 35] ?_))
    clear hK K
    refine ab (dwR fun K hK => ?_)
    repeat refine evF ?_
    refine clF rfl ⟨rfl, _, rfl⟩ (by omega) (by first | exact j3) (ft (gi (bo N v) u) 1 m) ?_
    rintro _ rfl
    repeat refine evF ?_
    refine aa (hK _ (dwK [2, 3, 8, 10, 11, 12, 25, 26, 27, 33, 34, 35, 42] ?_))
    clear hK K
    refine dwI (fun hb => ?_) (fun hb => ?_)
    ·have hsn : atL (ch (az N m) ord N.ends.length k) (eb (fun w => inB (gi (bo N v) w) 1 m) (u + 1)) = atL (ch (az N m) ord N.ends.length k) (eb (fun w => inB (gi (bo N v) w) 1 m) u) ++ [gi (ch (az N m) ord N.ends.length k) u] := by
      rw [qr (by simpa using hb), Il, Int.toNat_natCast]
     have dfx := And.intro dfx (@Int.toNat_natCast)
     refine dwR fun K hK => ?_
     repeat refine evF ?_
     have dfk := @fo
     refine aa (hK _ (a8 [2, 3, 8, 10, 11, 25, 26, 27, 33, 34, 35] ?_))
     clear hK K
     refine dwR fun K hK => ?_
     repeat refine evF ?_
     have dfk := And.intro @cd @hsn
     refine aa (hK _ ?_)
     clear hK K
     show ∃ x, _ ∧ _ ∧ Weak _ _
     refine ⟨u + 1, ?_, ?_, ay [2, 3, 8, 10, 11, 25, 26, 27, 33, 34, 35]⟩
     ·omega
     ·omega
    ·have hsn : eb (fun w => inB (gi (bo N v) w) 1 m) (u + 1) = eb (fun w => inB (gi (bo N v) w) 1 m) u := uf (by simpa using hb)
     refine ai ?_
     show DW _ _ _ _ _
     refine dwR fun K hK => ?_
     repeat refine evF ?_
     have dfk := And.intro @cd @hsn
     refine aa (hK _ ?_)
     clear hK K
     show ∃ x, _ ∧ _ ∧ Weak _ _
     refine ⟨u + 1, ?_, ?_, ay [2, 3, 8, 10, 11, 25, 26, 27, 33, 34, 35]⟩
     ·omega
     ·omega
   ·have hu2 : u = N.ends.length := by
     have : ¬ u < N.ends.length := by simpa using hb
     omega
    have hfin : eb (fun w => inB (gi (bo N v) w) 1 m) u = az N m v := by rw [hu2]; rfl
    rw [hfin]
    refine ap ?_
    refine bc [2, 3, 8, 10, 11, 25, 26, 27] (by simp only [ac, C.at, C.put, List.dropLast, List.isPrefixOf, simprocAttr]; exact rfl) ?_
    refine dwR fun K hK => ?_
    repeat refine evF ?_
    have dfx := And.intro dfx (@Int.toNat_natCast)
    refine clF rfl ⟨rfl, _, rfl⟩ (by omega) (by first | exact Re) (ya true 3 (atL (ch (az N m) ord N.ends.length k) (az N m v)) (by rw [vg]; omega)) ?_
    rintro _ rfl
    repeat refine evF ?_
    have dfk := @Al
    refine aa (hK _ (a8 [2, 3, 8, 25, 26, 27] ?_))
    clear hK K
    refine dwR fun K hK => ?_
    repeat refine evF ?_
    have dfk := And.intro @cd @hns
    refine aa (hK _ ?_)
    clear hK K
    show ∃ x, _ ∧ _ ∧ Weak _ _
    refine ⟨k + 1, ?_, ?_, ay [2, 3, 8, 25, 26, 27]⟩
    ·omega
    ·omega
  ·have hk2 : k = N.ends.length := by
    have : ¬ k < N.ends.length := by simpa using hb
    omega
   refine ap ?_
   refine bc [8] (by simp only [ac, C.at, C.put, List.dropLast, List.isPrefixOf, simprocAttr]; exact rfl) ?_
   refine ab (dwR fun K hK => ?_)
   repeat refine evF ?_
   refine aa (hK _ (dwK [6, 7] ?_))
   clear hK K
   exact ak (aq Tryz.results32 (.two (.own _ _ _ _ rfl rfl (own1 (cq _ _))) (.plain _ _ rfl)) (by decide) (by rw [hk2]))
end
section
set_option maxHeartbeats 0
set_option maxRecDepth 8000
open Go Go.RowKit
noncomputable def K3 (N : Net) : List (List Int) := nh N.ends.length (bo N)
def zBDad1 := PLift.up (And.intro an (And.intro bb (And.intro cl (And.intro bm (And.intro bj (And.intro @if_pos.{1} (And.intro @b7 (And.intro bn (And.intro @b4 (And.intro @b0 (And.intro @br (And.intro @a7 (And.intro @a6 (And.intro ew (And.intro @fb (And.intro @dm @trivial))))))))))))))))
theorem Kn : type_of% zBDad1.down := zBDad1.down
theorem qf (f : NF) (N : Net) (hg : bz N = true) : DCalls Tryz.prog 89 [.agg (bv f N)] (fun r => r = [.own false [.sl true 25 1 ((K3 N).map (lsC 3))]]) := by -- params impl.Network
 obtain ⟨hs, hn, hids, hdg⟩ := dh hg
 refine ao Tryz.func89 rfl (by rw [Tryz.ntmps89]; simp) fun w0 => ?_
 rw [Tryz.ntmps89]
 have dfx := Kn
 simp only [ce, be, Arg.av, bv, cm, ints, ends]
 refine ab (dwR fun K hK => ?_)
 repeat refine evF ?_
 refine aa (hK _ (dwK [1] ?_))
 clear hK K
 refine ab (dwR fun K hK => ?_)
 repeat refine evF ?_
 refine aa (hK _ (dwK [1, 3] ?_))
 clear hK K
 refine ab ?_
 refine ab (dwR fun K hK => ?_)
 repeat refine evF ?_
 refine aa (hK _ (dwK [1, 3, 7, 8] ?_))
 clear hK K
 refine ae ?_
 refine jw 3 25 1 (by decide) (by simp only [ac, C.at, C.put, List.dropLast, List.isPrefixOf, simprocAttr]) [1, 3, 7, 8] (by simp only [ac, C.at, C.put, List.dropLast, List.isPrefixOf, simprocAttr]; exact rfl) ?_
 refine ax (X := Nat) (fun k => k ≤ N.ends.length) (fun k => [(8, .c (.p (.int .i64 k)))]) (fun k => [((3, 0), ⟨none, [.sl true 25 1 ((nh k (bo N)).map (lsC 3))]⟩)]) (fun k => N.ends.length - k) 0 (Nat.zero_le _) (by first | rfl | (simp only [ac, C.at, C.put, List.dropLast, List.isPrefixOf, simprocAttr, Int.natCast_zero] <;> rfl)) ?_
 rintro k hk
 intro E hE
 simp only [ac, C.at, C.put, List.dropLast, List.isPrefixOf, simprocAttr] at hE
 subst hE
 have htl := kg k (bo N)
 refine ab (dwR fun K hK => ?_)
 repeat refine evF ?_
 refine aa (hK _ (dwK [1, 3, 7, 8, 9] ?_))
 clear hK K
 refine ab (dwI (fun hb => ?_) (fun hb => ?_))
 ·have hk1 : k < N.ends.length := by simpa using hb
  have hns := C4 k (bo N)
  refine ai ?_
  show DW _ _ _ _ _
  refine ab (ae ?_)
  refine ab (dwR fun K hK => ?_)
  repeat refine evF ?_
  refine aa (hK _ (dwK [1, 3, 4, 7, 8] ?_))
  clear hK K
  refine dwR fun K hK => ?_
  repeat refine evF ?_
  refine clF rfl ⟨rfl, _, rfl⟩ (by omega) (by first | exact Rh) (jx ⟨false, f.t1, f.o2, f.t2, false, f.t3, false, f.t4⟩ N k hs hk1 (by omega) hdg) ?_
  rintro _ rfl
  repeat refine evF ?_
  have dfk := And.intro @j5 @Lo
  refine aa (hK _ (a8 [1, 3, 7, 8] ?_))
  clear hK K
  refine dwR fun K hK => ?_
  repeat refine evF ?_
  have dfk := And.intro @cd @hns
  refine aa (hK _ ?_)
  clear hK K
  show ∃ x, _ ∧ _ ∧ Weak _ _
  refine ⟨k + 1, ?_, ?_, ay [1, 3, 7, 8]⟩
  ·omega
  ·omega
 ·have hk2 : k = N.ends.length := by
   have : ¬ k < N.ends.length := by simpa using hb
   omega
  refine ap ?_
  refine bc [3] (by simp only [ac, C.at, C.put, List.dropLast, List.isPrefixOf, simprocAttr]; exact rfl) ?_
  refine ab (dwR fun K hK => ?_)
  repeat refine evF ?_
  refine aa (hK _ (dwK [2] ?_))
  clear hK K
  exact ak (aq Tryz.results89 (.one (.own _ _ _ _ rfl rfl (own1 (G5 _ _ _)))) (by decide) (by rw [hk2]; rfl))
theorem Fw (f : NF) (N : Net) (o : Bool) (t : TypeId) (col : List Int) (hg : bz N = true) (hl : col.length = N.ends.length) (hc : col.all (fun n => inB n 0 1000000000000) = true) : DCalls Tryz.prog 88 [.agg (bv f N), .c (.sl o t 1 (col.map iC))] (fun r => r = [.c (.p (.bool true))]) := by -- params impl.Network, []int
 obtain ⟨hs, hn, hids, hdg⟩ := dh hg
 have he : ((col.length : Int) == (N.ends.length : Int)) = true := by rw [hl]; exact beq_self_eq_true _
 refine ao Tryz.func88 rfl (by rw [Tryz.ntmps88]; simp) fun w0 => ?_
 rw [Tryz.ntmps88]
 have dfx := Kn
 simp only [ce, be, Arg.av, bv, cm, ints, ends]
 refine ab (dwR fun K hK => ?_)
 repeat refine evF ?_
 refine aa (hK _ (dwK [1, 2] ?_))
 clear hK K
 refine ab (dwR fun K hK => ?_)
 repeat refine evF ?_
 refine clF rfl ⟨rfl, _, rfl⟩ (by omega) (by first | exact pg | exact nu) (f6 ⟨false, f.t1, f.o2, f.t2, false, f.t3, false, f.t4⟩ N hids) ?_
 rintro _ rfl
 repeat refine evF ?_
 have dfx := And.intro dfx (And.intro @hg @he)
 repeat refine evF ?_
 have dfx := And.intro dfx (And.intro @hg @he)
 refine cgF rfl rfl ⟨rfl, _, rfl⟩ (by omega) (by first | exact pg | exact nu) (yk o t col 0 1000000000000 (by omega)) ?_
 rintro _ rfl
 repeat refine evF ?_
 have dfx := And.intro dfx (And.intro @hg (And.intro @he @hc))
 repeat refine evF ?_
 have dfk := And.intro @hg (And.intro @he @hc)
 refine aa (hK _ (a8 [4] ?_))
 clear hK K
 exact ak (aq Tryz.results88 (.one (.plain _ _ rfl)) (by decide) rfl)
def isDistanceColouringSt9 : Nat → Stat
 | 0 => ⟨[11], [], [], [36], [], []⟩
 | 1 => ⟨[2], [], [], [37], [], []⟩
 | 2 => ⟨[36, 37], [], [], [38], [], []⟩
 | 3 => ⟨[38], [], [], [39], [], []⟩
 | 4 => ⟨[1, 39], [], [], [40], [], []⟩
 | 5 => ⟨[8, 39], [], [], [41], [], []⟩
 | 6 => ⟨[40, 41, 39], [], [], [42], [], []⟩
 | 7 => ⟨[42, 39], [], [], [43], [], []⟩
 | 8 => ⟨[1, 39], [], [], [44], [], []⟩
 | 9 => ⟨[10, 39], [], [], [45], [], []⟩
 | 10 => ⟨[44, 45, 39], [], [], [46], [], []⟩
 | 11 => ⟨[46, 39], [], [], [47], [], []⟩
 | 12 => ⟨[43, 47, 39], [], [], [48], [], []⟩
 | 13 => ⟨[39, 48], [], [], [49], [], []⟩
 | _ => ⟨[], [], [], [], [], []⟩
theorem o6 (f : NF) (N : Net) (o : Bool) (t : TypeId) (col : List Int) (m : Nat) (hg : bz N = true) (hl : col.length = N.ends.length) (hc : col.all (fun n => inB n 0 1000000000000) = true) (hm1 : 1 ≤ m) (hm2 : m ≤ 40) (hpr : ∀ v w, v < N.ends.length → w < N.ends.length → inB (gi (bo N v) w) 1 m = true → (gi col v == gi col w) = false) : DCalls Tryz.prog 34 [.agg (bv f N), .c (.sl o t 1 (col.map iC)), .c (.p (.int .i64 m))] (fun r => r = [.c (.p (.bool true)), .c (.p (.bool true))]) := by -- params impl.Network, []int, int
 obtain ⟨hs, hn, hids, hdg⟩ := dh hg
 have hin : inB (m : Int) 1 40 = true := cf.2 (by omega)
 have hal : (K3 N).length = N.ends.length := kg _ _
 refine ao Tryz.func34 rfl (by rw [Tryz.ntmps34]; simp) fun w0 => ?_
 rw [Tryz.ntmps34]
 have dfx := Kn
 simp only [ce, be, Arg.av, bv, cm, ints, ends]
 refine ab (dwR fun K hK => ?_)
 repeat refine evF ?_
 refine aa (hK _ (dwK [1, 2, 3] ?_))
 clear hK K
 refine ab ?_
 refine ab (dwR fun K hK => ?_)
 repeat refine evF ?_
 refine clF rfl ⟨rfl, _, rfl⟩ (by omega) (by first | exact Vn | exact j3) (Fw ⟨false, f.t1, f.o2, f.t2, false, f.t3, false, f.t4⟩ N o t col hg hl hc) ?_
 rintro _ rfl
 repeat refine evF ?_
 refine cgF rfl rfl ⟨rfl, _, rfl⟩ (by omega) (by first | exact Vn | exact j3) (ft m 1 40) ?_
 rintro _ rfl
 repeat refine evF ?_
 have dfx := And.intro dfx (@hin)
 repeat refine evF ?_
 have dfk := @hin
 refine aa (hK _ (a8 [1, 2, 3, 20] ?_))
 clear hK K
 refine dwI (fun hb => ?_) (fun hb => ?_)
 ·cases hb
 ·refine ai ?_
  show DW _ _ _ _ _
  refine ab ?_
  have dfx := And.intro dfx (@hal)
  refine ab (dwR fun K hK => ?_)
  repeat refine evF ?_
  have dfx := And.intro dfx (@hal)
  refine clF rfl ⟨rfl, _, rfl⟩ (by omega) (by first | exact Vm) (qf ⟨false, f.t1, f.o2, f.t2, false, f.t3, false, f.t4⟩ N hg) ?_
  rintro _ rfl
  repeat refine evF ?_
  have dfk := @hal
  refine aa (hK _ (a8 [1, 2, 22, 23, 24] ?_))
  clear hK K
  refine Bo 22 [1, 2, 22, 23, 24] rfl rfl (by simp only [ac, C.at, C.put, List.dropLast, List.isPrefixOf, simprocAttr, Gx, Dd, t8, t7, ml]; exact rfl) ?_
  refine ae ?_
  refine ax (X := Nat) (fun v => v ≤ N.ends.length) (fun v => [(24, .c (.p (.int .i64 v)))]) (fun v => []) (fun v => N.ends.length - v) 0 (Nat.zero_le _) (by first | rfl | (simp only [ac, C.at, C.put, List.dropLast, List.isPrefixOf, simprocAttr, Int.natCast_zero] <;> rfl)) ?_
  rintro v hv
  intro E hE
  simp only [ac, C.at, C.put, List.dropLast, List.isPrefixOf, simprocAttr] at hE
  subst hE
  refine ab (dwR fun K hK => ?_)
  repeat refine evF ?_
  refine aa (hK _ (dwK [1, 2, 22, 23, 24, 25] ?_))
  clear hK K
  refine ab (dwI (fun hb => ?_) (fun hb => ?_))
  ·have hv1 : v < N.ends.length := by simpa using hb
   have hlg : lg (K3 N) v = bo N v := sn hv1
   have hdl : (bo N v).length = N.ends.length := (di hs hv1).len
   refine ai ?_
   show DW _ _ _ _ _
   refine ab (ae ?_)
   have dfx := And.intro dfx (@Int.toNat_natCast)
   refine ab (dwR fun K hK => ?_)
   repeat refine evF ?_
   refine aa (hK _ (dwK [1, 2, 8, 9, 22, 23, 24] ?_))
   clear hK K
   have dfx := And.intro dfx (And.intro @hlg @hdl)
   refine ab (dwR fun K hK => ?_)
   repeat refine evF ?_
   have dfk := And.intro @hlg @hdl
   refine aa (hK _ (a8 [1, 2, 8, 22, 23, 24, 29, 30, 31] ?_))
   clear hK K
   refine ae ?_
   refine ax (X := Nat) (fun u => u ≤ N.ends.length) (fun u => [(31, .c (.p (.int .i64 u)))]) (fun u => []) (fun u => N.ends.length - u) 0 (Nat.zero_le _) (by first | rfl | (simp only [ac, C.at, C.put, List.dropLast, List.isPrefixOf, simprocAttr, Int.natCast_zero] <;> rfl)) ?_
   rintro u hu
   intro E hE
   simp only [ac, C.at, C.put, List.dropLast, List.isPrefixOf, simprocAttr] at hE
   subst hE
   refine ab (dwR fun K hK => ?_)
   repeat refine evF ?_
   refine aa (hK _ (dwK [1, 2, 8, 22, 23, 24, 29, 30, 31, 32] ?_))
   clear hK K
   refine ab (dwI (fun hb => ?_) (fun hb => ?_))
   ·have hu1 : u < N.ends.length := by simpa using hb
    refine ai ?_
    show DW _ _ _ _ _
    refine ab (ae ?_)
    have dfx := And.intro dfx (And.intro @hlg @Int.toNat_natCast)
    refine ab (dwR fun K hK => ?_)
    repeat refine evF ?_
    have dfk := @hlg
    refine aa (hK _ (a8 [1, 2, 8, 10, 11, 22, 23, 24, 29, 30, 31] ?_))
    clear hK K
    obtain hi | hi := Bool.eq_false_or_eq_true (inB (gi (bo N v) u) 1 m)
    ·have hne := hpr v u hv1 hu1 hi
     have dfx := And.intro dfx (@isDistanceColouringSt9.eq_def)
     refine ab (gk isDistanceColouringSt9 (fun j r => match j with | 2 => r = [.c (.p (.bool (inB (gi (bo N v) u) 1 m)))] | _ => True) fun K hK => ?_)
     repeat refine dvF ?_
     have dfx := And.intro dfx (And.intro @isDistanceColouringSt9.eq_def (And.intro @hi (And.intro @hne @Int.toNat_natCast)))
     refine dcF rfl ⟨rfl, _, rfl⟩ (by omega) (by first | exact j3) (ft (gi (bo N v) u) 1 m) ?_
     rintro _ rfl
     repeat refine dvF ?_
     have dfk := And.intro @hi @hne
     refine bt (hK _ (a8 [1, 2, 8, 22, 23, 24, 29, 30, 31, 49] ?_))
     clear hK K
     refine dwI (fun hb => ?_) (fun hb => ?_)
     ·cases hb
     ·refine ai ?_
      show DW _ _ _ _ _
      refine dwR fun K hK => ?_
      repeat refine evF ?_
      have dfk := @cd
      refine aa (hK _ ?_)
      clear hK K
      show ∃ x, _ ∧ _ ∧ Weak _ _
      refine ⟨u + 1, ?_, ?_, ay [1, 2, 8, 22, 23, 24, 29, 30, 31]⟩
      ·omega
      ·omega
    ·have dfx := And.intro dfx (@isDistanceColouringSt9.eq_def)
     refine ab (gk isDistanceColouringSt9 (fun j r => match j with | 2 => r = [.c (.p (.bool (inB (gi (bo N v) u) 1 m)))] | _ => True) fun K hK => ?_)
     repeat refine dvF ?_
     have dfx := And.intro dfx (And.intro @isDistanceColouringSt9.eq_def @hi)
     refine dcF rfl ⟨rfl, _, rfl⟩ (by omega) (by first | exact j3) (ft (gi (bo N v) u) 1 m) ?_
     rintro _ rfl
     repeat refine dvF ?_
     have dfk := @hi
     refine bt (hK _ (a8 [1, 2, 8, 22, 23, 24, 29, 30, 31, 49] ?_))
     clear hK K
     refine dwI (fun hb => ?_) (fun hb => ?_)
     ·cases hb
     ·refine ai ?_
      show DW _ _ _ _ _
      refine dwR fun K hK => ?_
      repeat refine evF ?_
      have dfk := @cd
      refine aa (hK _ ?_)
      clear hK K
      show ∃ x, _ ∧ _ ∧ Weak _ _
      refine ⟨u + 1, ?_, ?_, ay [1, 2, 8, 22, 23, 24, 29, 30, 31]⟩
      ·omega
      ·omega
   ·refine ap ?_
    refine bc [1, 2, 22, 23, 24] (by simp only [ac, C.at, C.put, List.dropLast, List.isPrefixOf, simprocAttr]; exact rfl) ?_
    refine dwR fun K hK => ?_
    repeat refine evF ?_
    have dfk := @cd
    refine aa (hK _ ?_)
    clear hK K
    show ∃ x, _ ∧ _ ∧ Weak _ _
    refine ⟨v + 1, ?_, ?_, ay [1, 2, 22, 23, 24]⟩
    ·omega
    ·omega
  ·refine ap ?_
   refine bc [] (by simp only [ac, C.at, C.put, List.dropLast, List.isPrefixOf, simprocAttr]; exact rfl) ?_
   refine ab (dwR fun K hK => ?_)
   repeat refine evF ?_
   refine aa (hK _ (dwK [6, 7] ?_))
   clear hK K
   exact ak (aq Tryz.results34 (.two (.plain _ _ rfl) (.plain _ _ rfl)) (by decide) rfl)
end
section
set_option maxHeartbeats 0
set_option maxRecDepth 8000
open Go Go.RowKit
def qC (e : Int × Int × Int × Int) : List C := [.p (.int .i64 e.1), .p (.int .i64 e.2.1), .p (.int .i64 e.2.2.1), .p (.int .i64 e.2.2.2)]
def gq (L : List (Int × Int × Int × Int)) (k : Nat) : Int × Int × Int × Int := L.getD k (0, 0, 0, 0)
theorem R0 {L : List (Int × Int × Int × Int)} {k : Nat} (h : k < L.length) : gq L k = L[k] := by simp [gq, h]
theorem Ln (xs : List (Int × Int × Int × Int)) (a b c d : Int) : xs.map qC ++ [[C.p (.int .i64 a), C.p (.int .i64 b), C.p (.int .i64 c), C.p (.int .i64 d)]] = (xs ++ [(a, b, c, d)]).map qC := by simp [qC]
theorem rx {L : List (Int × Int × Int × Int)} {k : Nat} (h : k < L.length) : (L.map qC).getD k [] = [.p (.int .i64 (gq L k).1), .p (.int .i64 (gq L k).2.1), .p (.int .i64 (gq L k).2.2.1), .p (.int .i64 (gq L k).2.2.2)] := by
 rw [List.getD_eq_getElem?_getD, List.getElem?_map, List.getElem?_eq_getElem h, R0 h]; rfl
theorem Qz (t : TypeId) (L : List (Int × Int × Int × Int)) : (C.sl true t 4 (L.map qC)).owned := pe fun r hr c hc => by
 obtain ⟨e, -, rfl⟩ := List.mem_map.1 hr
 simp only [qC, List.mem_cons, List.not_mem_nil, or_false] at hc
 rcases hc with rfl | rfl | rfl | rfl <;> exact Ez _
def edP (N : Net) (k i : Nat) : Bool := decide ((k : Int) < (gp (gl N.ends k) i).1) || (((k : Int) == (gp (gl N.ends k) i).1) && decide ((i : Int) ≤ (gp (gl N.ends k) i).2))
def edN (N : Net) (k : Nat) : Nat → List (Int × Int × Int × Int)
 | 0 => []
 | i + 1 => if edP N k i = true then edN N k i ++ [((k : Int), (i : Int), (gp (gl N.ends k) i).1, (gp (gl N.ends k) i).2)] else edN N k i
def edL (N : Net) : Nat → List (Int × Int × Int × Int)
 | 0 => []
 | k + 1 => edL N k ++ edN N k (gl N.ends k).length
theorem Fl (N : Net) (k : Nat) : ∀ i, (edN N k i).length ≤ i
 | 0 => Nat.le_refl _
 | i + 1 => by
  have := Fl N k i
  rw [edN]
  split
  ·simp; omega
  ·omega
theorem Fn (N : Net) (hd : ∀ a, (gl N.ends a).length ≤ 1000) : ∀ k, (edL N k).length ≤ k * 1000
 | 0 => by simp [edL]
 | k + 1 => by
  have h1 := Fn N hd k
  have h2 := Fl N k (gl N.ends k).length
  have h3 := hd k
  rw [edL, List.length_append]
  omega
theorem Fk {N : Net} {k : Nat} : ∀ {i : Nat} {e : Int × Int × Int × Int}, e ∈ edN N k i → ∃ j, j < i ∧ edP N k j = true ∧ e = ((k : Int), (j : Int), (gp (gl N.ends k) j).1, (gp (gl N.ends k) j).2)
 | 0, e, h => by cases h
 | i + 1, e, h => by
  rw [edN] at h
  split at h
  ·rename_i hp
   rcases List.mem_append.1 h with h | h
   ·obtain ⟨j, h1, h2⟩ := Fk h; exact ⟨j, by omega, h2⟩
   ·exact ⟨i, by omega, hp, by simpa using h⟩
  ·obtain ⟨j, h1, h2⟩ := Fk h; exact ⟨j, by omega, h2⟩
theorem Fm {N : Net} : ∀ {n : Nat} {e : Int × Int × Int × Int}, e ∈ edL N n → ∃ k j, k < n ∧ j < (gl N.ends k).length ∧ edP N k j = true ∧ e = ((k : Int), (j : Int), (gp (gl N.ends k) j).1, (gp (gl N.ends k) j).2)
 | 0, e, h => by cases h
 | n + 1, e, h => by
  rw [edL] at h
  rcases List.mem_append.1 h with h | h
  ·obtain ⟨k, j, h1, h2⟩ := Fm h; exact ⟨k, j, by omega, h2⟩
  ·obtain ⟨j, h1, h2⟩ := Fk h; exact ⟨n, j, by omega, h1, h2⟩
def zBDeq1 := PLift.up (And.intro an (And.intro bb (And.intro cl (And.intro bm (And.intro bj (And.intro @if_pos.{1} (And.intro @b7 (And.intro bn (And.intro @b4 (And.intro @b0 (And.intro @br (And.intro @a7 (And.intro @a6 (And.intro lu (And.intro lv (And.intro @rx @trivial))))))))))))))))
theorem xj : type_of% zBDeq1.down := zBDeq1.down
theorem Ur (f : NF) (N : Net) (hn : N.ends.length ≤ 1000) (hdg : ∀ a, (gl N.ends a).length ≤ 1000) : DCalls Tryz.prog 133 [.agg (bv f N)] (fun r => r = [.own false [.sl true 134 4 ((edL N N.ends.length).map qC)]]) := by
 refine ao Tryz.func133 rfl (by rw [Tryz.ntmps133]; simp) fun w0 => ?_
 rw [Tryz.ntmps133]
 have dfx := xj
 simp only [ce, be, Arg.av, bv, cm, ints, ends]
 refine ab (dwR fun K hK => ?_)
 repeat refine evF ?_
 refine aa (hK _ (dwK [1] ?_))
 clear hK K
 refine ab (dwR fun K hK => ?_)
 repeat refine evF ?_
 refine aa (hK _ (dwK [1, 3] ?_))
 clear hK K
 refine ab ?_
 refine ab (dwR fun K hK => ?_)
 repeat refine evF ?_
 refine aa (hK _ (dwK [3, 9, 10, 11] ?_))
 clear hK K
 refine ae ?_
 refine jw 3 134 4 (by decide) (by simp only [ac, C.at, C.put, List.dropLast, List.isPrefixOf, simprocAttr]) [3, 9, 10, 11] (by simp only [ac, C.at, C.put, List.dropLast, List.isPrefixOf, simprocAttr]; exact rfl) ?_
 refine ax (X := Nat) (fun k => k ≤ N.ends.length) (fun k => [(11, .c (.p (.int .i64 k)))]) (fun k => [((3, 0), ⟨none, [.sl true 134 4 ((edL N k).map qC)]⟩)]) (fun k => N.ends.length - k) 0 (Nat.zero_le _) (by first | rfl | (simp only [ac, C.at, C.put, List.dropLast, List.isPrefixOf, simprocAttr, Int.natCast_zero] <;> rfl)) ?_
 rintro k hk
 intro E hE
 simp only [ac, C.at, C.put, List.dropLast, List.isPrefixOf, simprocAttr] at hE
 subst hE
 refine ab (dwR fun K hK => ?_)
 repeat refine evF ?_
 refine aa (hK _ (dwK [3, 9, 10, 11, 12] ?_))
 clear hK K
 refine ab (dwI (fun hb => ?_) (fun hb => ?_))
 ·have hk1 : k < N.ends.length := by simpa using hb
  have hdk := hdg k
  have hel := Fn N hdg k
  have hk3 : k * 1000 ≤ 1000 * 1000 := Nat.mul_le_mul_right _ (by omega)
  refine ai ?_
  show DW _ _ _ _ _
  refine ab (ae ?_)
  have dfx := And.intro dfx (@Int.toNat_natCast)
  refine ab (dwR fun K hK => ?_)
  repeat refine evF ?_
  refine aa (hK _ (dwK [3, 4, 5, 9, 10, 11] ?_))
  clear hK K
  refine ab (dwR fun K hK => ?_)
  repeat refine evF ?_
  refine aa (hK _ (dwK [3, 4, 9, 10, 11, 16, 17, 18] ?_))
  clear hK K
  refine ae ?_
  refine ax (X := Nat) (fun i => i ≤ (gl N.ends k).length) (fun i => [(18, .c (.p (.int .i64 i)))]) (fun i => [((3, 0), ⟨none, [.sl true 134 4 ((edL N k ++ edN N k i).map qC)]⟩)]) (fun i => (gl N.ends k).length - i) 0 (Nat.zero_le _) (by first | rfl | (simp only [ac, C.at, C.put, List.dropLast, List.isPrefixOf, simprocAttr, Int.natCast_zero, edN, List.append_nil] <;> rfl)) ?_
  rintro i hi
  intro E hE
  simp only [ac, C.at, C.put, List.dropLast, List.isPrefixOf, simprocAttr] at hE
  subst hE
  have hnl := Fl N k i
  have hll : (edL N k ++ edN N k i).length ≤ 1000 * 1000 + 1000 := by rw [List.length_append]; omega
  refine ab (dwR fun K hK => ?_)
  repeat refine evF ?_
  refine aa (hK _ (dwK [3, 4, 9, 10, 11, 16, 17, 18, 19] ?_))
  clear hK K
  refine ab (dwI (fun hb => ?_) (fun hb => ?_))
  ·have hi1 : i < (gl N.ends k).length := by simpa using hb
   have hyes : edP N k i = true → edL N k ++ edN N k (i + 1) = (edL N k ++ edN N k i) ++ [((k : Int), (i : Int), (gp (gl N.ends k) i).1, (gp (gl N.ends k) i).2)] := fun h => by rw [edN, if_pos h, List.append_assoc]
   have hno : edP N k i = false → edL N k ++ edN N k (i + 1) = edL N k ++ edN N k i := fun h => by rw [edN, if_neg (by rw [h]; decide)]
   refine ai ?_
   show DW _ _ _ _ _
   refine ab (ae ?_)
   refine ab (dwR fun K hK => ?_)
   repeat refine evF ?_
   refine aa (hK _ (dwK [3, 4, 6, 7, 9, 10, 11, 16, 17, 18] ?_))
   clear hK K
   obtain h1 | h1 := Bool.eq_false_or_eq_true (decide ((k : Int) < (gp (gl N.ends k) i).1))
   ·have hm := hyes (by unfold edP; rw [h1]; rfl)
    have dfx := And.intro dfx (@h1)
    refine ab (dwR fun K hK => ?_)
    repeat refine evF ?_
    have dfk := @h1
    refine aa (hK _ (a8 [3, 4, 6, 7, 9, 10, 11, 16, 17, 18, 38] ?_))
    clear hK K
    refine dwI (fun hb => ?_) (fun hb => ?_)
    ·refine dwR fun K hK => ?_
     repeat refine evF ?_
     have dfk := @Ln
     refine aa (hK _ (a8 [3, 4, 9, 10, 11, 16, 17, 18] ?_))
     clear hK K
     refine dwR fun K hK => ?_
     repeat refine evF ?_
     have dfk := And.intro @cd @hm
     refine aa (hK _ ?_)
     clear hK K
     show ∃ x, _ ∧ _ ∧ Weak _ _
     refine ⟨i + 1, ?_, ?_, ay [3, 4, 9, 10, 11, 16, 17, 18]⟩
     ·omega
     ·omega
    ·cases hb
   ·obtain h2 | h2 := Bool.eq_false_or_eq_true ((k : Int) == (gp (gl N.ends k) i).1)
    ·obtain h3 | h3 := Bool.eq_false_or_eq_true (decide ((i : Int) ≤ (gp (gl N.ends k) i).2))
     ·have hm := hyes (by unfold edP; rw [h1, h2, h3]; rfl)
      have dfx := And.intro dfx (And.intro @h1 (And.intro @h2 @h3))
      refine ab (dwR fun K hK => ?_)
      repeat refine evF ?_
      have dfk := And.intro @h1 (And.intro @h2 @h3)
      refine aa (hK _ (a8 [3, 4, 6, 7, 9, 10, 11, 16, 17, 18, 38] ?_))
      clear hK K
      refine dwI (fun hb => ?_) (fun hb => ?_)
      ·refine dwR fun K hK => ?_
       repeat refine evF ?_
       have dfk := @Ln
       refine aa (hK _ (a8 [3, 4, 9, 10, 11, 16, 17, 18] ?_))
       clear hK K
       refine dwR fun K hK => ?_
       repeat refine evF ?_
       have dfk := And.intro @cd @hm
       refine aa (hK _ ?_)
       clear hK K
       show ∃ x, _ ∧ _ ∧ Weak _ _
       refine ⟨i + 1, ?_, ?_, ay [3, 4, 9, 10, 11, 16, 17, 18]⟩
       ·omega
       ·omega
      ·cases hb
     ·have hm := hno (by unfold edP; rw [h1, h2, h3]; rfl)
      have dfx := And.intro dfx (And.intro @h1 (And.intro @h2 @h3))
      refine ab (dwR fun K hK => ?_)
      repeat refine evF ?_
      have dfk := And.intro @h1 (And.intro @h2 @h3)
      refine aa (hK _ (a8 [3, 4, 6, 7, 9, 10, 11, 16, 17, 18, 38] ?_))
      clear hK K
      refine dwI (fun hb => ?_) (fun hb => ?_)
      ·cases hb
      ·refine ai ?_
       show DW _ _ _ _ _
       refine dwR fun K hK => ?_
       repeat refine evF ?_
       have dfk := And.intro @cd @hm
       refine aa (hK _ ?_)
       clear hK K
       show ∃ x, _ ∧ _ ∧ Weak _ _
       refine ⟨i + 1, ?_, ?_, ay [3, 4, 9, 10, 11, 16, 17, 18]⟩
       ·omega
       ·omega
    ·have hm := hno (by unfold edP; rw [h1, h2]; rfl)
     have dfx := And.intro dfx (And.intro @h1 @h2)
     refine ab (dwR fun K hK => ?_)
     repeat refine evF ?_
     have dfk := And.intro @h1 @h2
     refine aa (hK _ (a8 [3, 4, 6, 7, 9, 10, 11, 16, 17, 18, 38] ?_))
     clear hK K
     refine dwI (fun hb => ?_) (fun hb => ?_)
     ·cases hb
     ·refine ai ?_
      show DW _ _ _ _ _
      refine dwR fun K hK => ?_
      repeat refine evF ?_
      have dfk := And.intro @cd @hm
      refine aa (hK _ ?_)
      clear hK K
      show ∃ x, _ ∧ _ ∧ Weak _ _
      refine ⟨i + 1, ?_, ?_, ay [3, 4, 9, 10, 11, 16, 17, 18]⟩
      ·omega
      ·omega
  ·have hi2 : i = (gl N.ends k).length := by
    have : ¬ i < (gl N.ends k).length := by simpa using hb
    omega
   have hm : edL N (k + 1) = edL N k ++ edN N k i := by rw [hi2]; rfl
   refine ap ?_
   refine bc [3, 9, 10, 11] (by simp only [ac, C.at, C.put, List.dropLast, List.isPrefixOf, simprocAttr]; exact rfl) ?_
   refine dwR fun K hK => ?_
   repeat refine evF ?_
   have dfk := And.intro @cd @hm
   refine aa (hK _ ?_)
   clear hK K
   show ∃ x, _ ∧ _ ∧ Weak _ _
   refine ⟨k + 1, ?_, ?_, ay [3, 9, 10, 11]⟩
   ·omega
   ·omega
 ·have hk2 : k = N.ends.length := by
   have : ¬ k < N.ends.length := by simpa using hb
   omega
  refine ap ?_
  refine bc [3] (by simp only [ac, C.at, C.put, List.dropLast, List.isPrefixOf, simprocAttr]; exact rfl) ?_
  refine ab (dwR fun K hK => ?_)
  repeat refine evF ?_
  refine aa (hK _ (dwK [2] ?_))
  clear hK K
  exact ak (aq Tryz.results133 (.one (.own _ _ _ _ rfl rfl (own1 (Qz _ _)))) (by decide) (by rw [hk2]))
theorem F4 (o : Bool) (t : TypeId) (es : List (Int × Int × Int × Int)) (g : FuncId) (css : List (List C)) (b : Nat → Bool) (hl : es.length ≤ 1000000) (hm : aj Tryz.prog g = true) (hg : ∀ j, j < es.length → DCalls Tryz.prog g ([.agg (qC (gq es j))] ++ css.map .rp) (fun r => r = [.c (.p (.bool (b j)))])) : DCalls Tryz.prog 173 [.c (.sl o t 4 (es.map qC)), .fn g css] (fun r => r = [.c (.p (.int .i64 (tb es.length b)))]) := by
 refine ao Tryz.func173 rfl (by rw [Tryz.ntmps173]; simp) fun w0 => ?_
 rw [Tryz.ntmps173]
 have dfx := xj
 simp only [ce, be, Arg.av, bv, cm, ints, ends]
 refine ab (dwR fun K hK => ?_)
 repeat refine evF ?_
 refine aa (hK _ (dwK [0, 1] ?_))
 clear hK K
 refine ab ?_
 refine ab (dwR fun K hK => ?_)
 repeat refine evF ?_
 refine aa (hK _ (dwK [0, 1, 7, 8] ?_))
 clear hK K
 refine ae ?_
 refine ax (X := Nat) (fun k => k ≤ es.length ∧ ∀ j, j < k → b j = false) (fun k => [(8, .c (.p (.int .i64 k)))]) (fun k => []) (fun k => es.length - k) 0 ⟨Nat.zero_le _, fun j hj => by simp at hj⟩ (by first | rfl | (simp only [ac, C.at, C.put, List.dropLast, List.isPrefixOf, simprocAttr, Int.natCast_zero] <;> rfl)) ?_
 rintro k ⟨hk, hne⟩
 intro E hE
 simp only [ac, C.at, C.put, List.dropLast, List.isPrefixOf, simprocAttr] at hE
 subst hE
 refine ab (dwR fun K hK => ?_)
 repeat refine evF ?_
 refine aa (hK _ (dwK [0, 1, 7, 8, 9] ?_))
 clear hK K
 refine ab (dwI (fun hb => ?_) (fun hb => ?_))
 ·have hkl : k < es.length := by simpa using hb
  refine ai ?_
  show DW _ _ _ _ _
  refine ab (ae ?_)
  refine ab (dwR fun K hK => ?_)
  repeat refine evF ?_
  refine aa (hK _ (dwK [0, 1, 5, 7, 8] ?_))
  clear hK K
  refine ab (dwR fun K hK => ?_)
  repeat refine evF ?_
  refine qe rfl ⟨rfl, _, rfl⟩ (by omega) (by simp (disch := first | omega | (intros; contradiction)) only [ac, bd, C.at, C.put, List.dropLast, List.isPrefixOf, simprocAttr, an, bb, cl, bm, bj, if_pos, b7, bn, b4, b0, br, a7, a6, lu, lv, rx] <;> exact rfl) (by first | assumption) (by simp (disch := first | omega | (intros; contradiction)) only [ac, bd, C.at, C.put, List.dropLast, List.isPrefixOf, simprocAttr, an, bb, cl, bm, bj, if_pos, b7, bn, b4, b0, br, a7, a6, lu, lv, rx] <;> exact rfl) (hg k hkl) ?_
  rintro _ rfl
  repeat refine evF ?_
  refine aa (hK _ (dwK [0, 1, 5, 7, 8, 16] ?_))
  clear hK K
  refine dwI (fun hb => ?_) (fun hb => ?_)
  ·have hi : tb es.length b = k := w9 hkl hb hne
   refine ab (dwR fun K hK => ?_)
   repeat refine evF ?_
   refine aa (hK _ (dwK [4] ?_))
   clear hK K
   exact ak (aq Tryz.results173 (.one (.plain _ _ rfl)) (by decide) (by rw [hi]))
  ·refine ai ?_
   show DW _ _ _ _ _
   refine dwR fun K hK => ?_
   repeat refine evF ?_
   have dfk := @cd
   refine aa (hK _ ?_)
   clear hK K
   show ∃ x, _ ∧ _ ∧ Weak _ _
   refine ⟨k + 1, ?_, ?_, ay [0, 1, 7, 8]⟩
   ·refine ⟨hkl, fun j hj => ?_⟩
    rcases Nat.lt_or_ge j k with h | h
    ·exact hne j h
    ·obtain rfl : j = k := by omega
     exact hb
   ·omega
 ·have hkl : k = es.length := by
   have : ¬ (k : Int) < (es.length : Int) := by simpa using hb
   omega
  subst hkl
  have hi : tb es.length b = -1 := xb hne
  refine ap ?_
  refine bc [] (by simp only [ac, C.at, C.put, List.dropLast, List.isPrefixOf, simprocAttr]; exact rfl) ?_
  refine ab (dwR fun K hK => ?_)
  repeat refine evF ?_
  refine aa (hK _ (dwK [4] ?_))
  clear hK K
  exact ak (aq Tryz.results173 (.one (.plain _ _ rfl)) (by decide) (by rw [hi]))
theorem yu (o : Bool) (t : TypeId) (es : List (Int × Int × Int × Int)) (g : FuncId) (css : List (List C)) (b : Nat → Bool) (hl : es.length ≤ 1000000) (hm : aj Tryz.prog g = true) (hg : ∀ j, j < es.length → DCalls Tryz.prog g ([.agg (qC (gq es j))] ++ css.map .rp) (fun r => r = [.c (.p (.bool (b j)))])) : DCalls Tryz.prog 132 [.c (.sl o t 4 (es.map qC)), .fn g css] (fun r => r = [.c (.p (.bool (rm es.length b)))]) := by
 refine ao Tryz.func132 rfl (by rw [Tryz.ntmps132]; simp) fun w0 => ?_
 rw [Tryz.ntmps132]
 have dfx := xj
 simp only [ce, be, Arg.av, bv, cm, ints, ends]
 refine ab (dwR fun K hK => ?_)
 repeat refine evF ?_
 refine aa (hK _ (dwK [0, 1] ?_))
 clear hK K
 refine ab (dwR fun K hK => ?_)
 repeat (apply cg; (focus exact rfl); (focus (simp (disch := first | omega | (intros; contradiction)) only [ac, bd, C.at, C.put, List.dropLast, List.isPrefixOf, simprocAttr, an, bb, cl, bm, bj, if_pos, b7, bn, b4, b0, br, a7, a6, lu, lv, rx , E3]; exact rfl)))
 refine ee rfl ⟨rfl, _, rfl⟩ (by omega) (by first | exact E3) (by simp (disch := first | omega | (intros; contradiction)) only [ac, bd, C.at, C.put, List.dropLast, List.isPrefixOf, simprocAttr, an, bb, cl, bm, bj, if_pos, b7, bn, b4, b0, br, a7, a6, lu, lv, rx , E3] <;> exact rfl) (F4 o t es g css b hl hm hg) ?_
 rintro _ rfl
 repeat (apply cg; (focus exact rfl); (focus (simp (disch := first | omega | (intros; contradiction)) only [ac, bd, C.at, C.put, List.dropLast, List.isPrefixOf, simprocAttr, an, bb, cl, bm, bj, if_pos, b7, bn, b4, b0, br, a7, a6, lu, lv, rx , E3]; exact rfl)))
 refine aa (hK _ (dwK [4] ?_))
 clear hK K
 exact ak (aq Tryz.results132 (.one (.plain _ _ rfl)) (by decide) (by rw [← Ff]))
def isColouringSt1 : Nat → Stat
 | 0 => ⟨[1], [], [], [4], [], []⟩
 | 1 => ⟨[2], [(2, 1)], [], [5], [], []⟩
 | 2 => ⟨[5], [(2, 1)], [], [6], [], []⟩
 | 3 => ⟨[4, 6], [], [], [7], [], []⟩
 | 4 => ⟨[7], [], [], [8], [], []⟩
 | 5 => ⟨[1], [], [], [9], [], []⟩
 | 6 => ⟨[2], [(2, 1)], [], [10], [], []⟩
 | 7 => ⟨[10], [(2, 1)], [], [11], [], []⟩
 | 8 => ⟨[9, 11], [], [], [12], [], []⟩
 | 9 => ⟨[12], [], [], [13], [], []⟩
 | 10 => ⟨[8, 13], [], [], [14], [], []⟩
 | 11 => ⟨[14], [], [], [3], [], []⟩
 | _ => ⟨[], [], [], [], [], []⟩
theorem Bf (o : Bool) (t : TypeId) (col : List Int) (e : Int × Int × Int × Int) (v w : Nat) (hv : e.1 = v) (hw : e.2.2.1 = w) (hvl : v < col.length) (hwl : w < col.length) : DCalls Tryz.prog 134 [.agg (qC e), .rp [.sl o t 1 (col.map iC)]] (fun r => r = [.c (.p (.bool (gi col v == gi col w)))]) := by
 obtain ⟨e1, e2, e3, e4⟩ := e
 obtain rfl : e1 = v := hv
 obtain rfl : e3 = w := hw
 refine ao Tryz.func134 rfl (by rw [Tryz.ntmps134]; simp) fun w0 => ?_
 rw [Tryz.ntmps134]
 have dfx := xj
 simp only [ce, be, Arg.av, bv, cm, ints, ends, qC]
 refine ab (dwR fun K hK => ?_)
 repeat refine evF ?_
 refine aa (hK _ (dwK [1, 2] ?_))
 clear hK K
 have dfx := And.intro dfx (And.intro @isColouringSt1.eq_def @Int.toNat_natCast)
 refine ab (gk isColouringSt1 (fun j r => True) fun K hK => ?_)
 repeat refine dvF ?_
 refine bt (hK _ (dwK [3] ?_))
 clear hK K
 exact ak (aq Tryz.results134 (.one (.plain _ _ rfl)) (by decide) rfl)
theorem Be (f : NF) (N : Net) (o : Bool) (t : TypeId) (col : List Int) (hg : bz N = true) (hl : col.length = N.ends.length) (hc : col.all (fun n => inB n 0 1000000000000) = true) : DCalls Tryz.prog 90 [.agg (bv f N), .c (.sl o t 1 (col.map iC))] (fun r => r = [.c (.p (.bool !(rm (edL N N.ends.length).length fun j => gi col (gq (edL N N.ends.length) j).1.toNat == gi col (gq (edL N N.ends.length) j).2.2.1.toNat)))]) := by
 obtain ⟨hs, hn, hids, hdg⟩ := dh hg
 have hel := Fn N hdg N.ends.length
 have he : ((col.length : Int) == (N.ends.length : Int)) = true := by rw [hl]; exact beq_self_eq_true _
 have hclo : ∀ j, j < (edL N N.ends.length).length → DCalls Tryz.prog 134 ([.agg (qC (gq (edL N N.ends.length) j))] ++ [[C.sl false t 1 (col.map iC)]].map .rp) (fun r => r = [.c (.p (.bool (gi col (gq (edL N N.ends.length) j).1.toNat == gi col (gq (edL N N.ends.length) j).2.2.1.toNat)))]) := fun j hj => by
  obtain ⟨k, i, hk, hi, -, hq⟩ := Fm (List.getElem_mem hj)
  rw [← R0 hj] at hq
  obtain ⟨q1, -, -, -, q2⟩ := ff hs hk hi
  have h1 : (gq (edL N N.ends.length) j).1 = (k : Int) := by rw [hq]
  have h2 : (gq (edL N N.ends.length) j).2.2.1 = ((nd N k i : Nat) : Int) := by rw [hq]; exact congrArg Prod.fst q2
  rw [h1, h2, Int.toNat_natCast, Int.toNat_natCast]
  exact Bf false t col _ k (nd N k i) h1 h2 (by omega) (by omega)
 refine ao Tryz.func90 rfl (by rw [Tryz.ntmps90]; simp) fun w0 => ?_
 rw [Tryz.ntmps90]
 have dfx := xj
 simp only [ce, be, Arg.av, bv, cm, ints, ends]
 refine ab (dwR fun K hK => ?_)
 repeat refine evF ?_
 refine aa (hK _ (dwK [2, 3] ?_))
 clear hK K
 refine ab (dwR fun K hK => ?_)
 repeat (apply cg; (focus exact rfl); (focus (simp (disch := first | omega | (intros; contradiction)) only [ac, bd, C.at, C.put, List.dropLast, List.isPrefixOf, simprocAttr, an, bb, cl, bm, bj, if_pos, b7, bn, b4, b0, br, a7, a6, lu, lv, rx , he, nu, sk, sm]; exact rfl)))
 refine cgF rfl rfl ⟨rfl, _, rfl⟩ (by omega) (by first | exact nu | exact sk | exact sm) (yk false t col 0 1000000000000 (by omega)) ?_
 rintro _ rfl
 repeat (apply cg; (focus exact rfl); (focus (simp (disch := first | omega | (intros; contradiction)) only [ac, bd, C.at, C.put, List.dropLast, List.isPrefixOf, simprocAttr, an, bb, cl, bm, bj, if_pos, b7, bn, b4, b0, br, a7, a6, lu, lv, rx , he, nu, sk, sm]; exact rfl)))
 have dfx := And.intro dfx (And.intro @he @hc)
 repeat refine evF ?_
 refine cgF rfl rfl ⟨rfl, _, rfl⟩ (by omega) (by first | exact nu | exact sk | exact sm) (Ur ⟨false, f.t1, f.o2, f.t2, false, f.t3, false, f.t4⟩ N (by omega) hdg) ?_
 rintro _ rfl
 repeat (apply cg; (focus exact rfl); (focus (simp (disch := first | omega | (intros; contradiction)) only [ac, bd, C.at, C.put, List.dropLast, List.isPrefixOf, simprocAttr, an, bb, cl, bm, bj, if_pos, b7, bn, b4, b0, br, a7, a6, lu, lv, rx , he, hc, nu, sk, sm]; exact rfl)))
 have dfx := And.intro dfx (And.intro @he @hc)
 repeat refine evF ?_
 refine cgF rfl rfl ⟨rfl, _, rfl⟩ (by omega) (by first | exact nu | exact sk | exact sm) (yu true 134 (edL N N.ends.length) 134 _ _ (by omega) W5 hclo) ?_
 rintro _ rfl
 repeat (apply cg; (focus exact rfl); (focus (simp (disch := first | omega | (intros; contradiction)) only [ac, bd, C.at, C.put, List.dropLast, List.isPrefixOf, simprocAttr, an, bb, cl, bm, bj, if_pos, b7, bn, b4, b0, br, a7, a6, lu, lv, rx , he, hc, nu, sk, sm]; exact rfl)))
 have dfx := And.intro dfx (And.intro @he @hc)
 repeat refine evF ?_
 have dfk := And.intro @he @hc
 refine aa (hK _ (a8 [4] ?_))
 clear hK K
 exact ak (aq Tryz.results90 (.one (.plain _ _ rfl)) (by decide) rfl)
theorem B6 (f : NF) (N : Net) (o : Bool) (t : TypeId) (col : List Int) (hg : bz N = true) (hl : col.length = N.ends.length) (hc : col.all (fun n => inB n 0 1000000000000) = true) : DCalls Tryz.prog 35 [.agg (bv f N), .c (.sl o t 1 (col.map iC))] (fun r => r = [.c (.p (.bool !(rm (edL N N.ends.length).length fun j => gi col (gq (edL N N.ends.length) j).1.toNat == gi col (gq (edL N N.ends.length) j).2.2.1.toNat))), .c (.p (.bool true))]) := by
 obtain ⟨hs, hn, hids, hdg⟩ := dh hg
 refine ao Tryz.func35 rfl (by rw [Tryz.ntmps35]; simp) fun w0 => ?_
 rw [Tryz.ntmps35]
 have dfx := xj
 simp only [ce, be, Arg.av, bv, cm, ints, ends]
 refine ab (dwR fun K hK => ?_)
 repeat refine evF ?_
 refine aa (hK _ (dwK [1, 2] ?_))
 clear hK K
 refine ab ?_
 refine ab (dwR fun K hK => ?_)
 repeat refine evF ?_
 refine clF rfl ⟨rfl, _, rfl⟩ (by omega) (by first | exact pg) (f6 ⟨false, f.t1, f.o2, f.t2, false, f.t3, false, f.t4⟩ N hids) ?_
 rintro _ rfl
 repeat refine evF ?_
 have dfx := And.intro dfx (@hg)
 repeat refine evF ?_
 have dfk := @hg
 refine aa (hK _ (a8 [1, 2, 8] ?_))
 clear hK K
 refine dwI (fun hb => ?_) (fun hb => ?_)
 ·cases hb
 ·refine ai ?_
  show DW _ _ _ _ _
  refine ab (dwR fun K hK => ?_)
  repeat refine evF ?_
  refine clF rfl ⟨rfl, _, rfl⟩ (by omega) (by first | exact Zb) (Be ⟨false, f.t1, f.o2, f.t2, false, f.t3, false, f.t4⟩ N o t col hg hl hc) ?_
  rintro _ rfl
  repeat refine evF ?_
  refine aa (hK _ (dwK [4, 5] ?_))
  clear hK K
  exact ak (aq Tryz.results35 (.two (.plain _ _ rfl) (.plain _ _ rfl)) (by decide) rfl)
end
section
open Go Go.RowKit
end
section
open Go Go.RowKit
end
section
open Go Go.RowKit
def zBDme51 := PLift.up (And.intro an (And.intro bb (And.intro cl (And.intro bm (And.intro bj (And.intro @if_pos.{1} (And.intro @b7 (And.intro bn (And.intro @b4 (And.intro @b0 (And.intro @br (And.intro @a7 (And.intro @a6 @trivial)))))))))))))
theorem Uy : type_of% zBDme51.down := zBDme51.down
set_option maxRecDepth 8000 in
set_option maxHeartbeats 0 in
theorem F5 (o : Bool) (t : TypeId) (es : List (Int × Int)) (g : FuncId) (css : List (List C)) (b : Nat → Bool) (hl : es.length ≤ 1000000) (hm : aj Tryz.prog g = true) (hg : ∀ j, j < es.length → DCalls Tryz.prog g ([.agg (eC (gp es j))] ++ css.map .rp) (fun r => r = [.c (.p (.bool (b j)))])) : DCalls Tryz.prog 58 [.c (.sl o t 2 (es.map eC)), .fn g css] (fun r => r = [.c (.p (.int .i64 (tb es.length b)))]) := by
 refine ao Tryz.func58 rfl (by rw [Tryz.ntmps58]; simp) fun w0 => ?_
 rw [Tryz.ntmps58]
 have dfx := Uy
 simp only [ce, be, Arg.av, bv, cm, ints, ends]
 refine ab (dwR fun K hK => ?_)
 repeat refine evF ?_
 refine aa (hK _ (dwK [0, 1] ?_))
 clear hK K
 refine ab ?_
 refine ab (dwR fun K hK => ?_)
 repeat refine evF ?_
 refine aa (hK _ (dwK [0, 1, 7, 8] ?_))
 clear hK K
 refine ae ?_
 refine ax (X := Nat) (fun k => k ≤ es.length ∧ ∀ j, j < k → b j = false) (fun k => [(8, .c (.p (.int .i64 k)))]) (fun k => []) (fun k => es.length - k) 0 ⟨Nat.zero_le _, fun j hj => by simp at hj⟩ (by first | rfl | (simp only [ac, C.at, C.put, List.dropLast, List.isPrefixOf, simprocAttr, Int.natCast_zero] <;> rfl)) ?_
 rintro k ⟨hk, hne⟩
 intro E hE
 simp only [ac, C.at, C.put, List.dropLast, List.isPrefixOf, simprocAttr] at hE
 subst hE
 refine ab (dwR fun K hK => ?_)
 repeat refine evF ?_
 refine aa (hK _ (dwK [0, 1, 7, 8, 9] ?_))
 clear hK K
 refine ab (dwI (fun hb => ?_) (fun hb => ?_))
 ·have hkl : k < es.length := by simpa using hb
  refine ai ?_
  show DW _ _ _ _ _
  refine ab (ae ?_)
  refine ab (dwR fun K hK => ?_)
  repeat refine evF ?_
  refine aa (hK _ (dwK [0, 1, 5, 7, 8] ?_))
  clear hK K
  refine ab (dwR fun K hK => ?_)
  repeat refine evF ?_
  refine qe rfl ⟨rfl, _, rfl⟩ (by omega) (by simp (disch := first | omega | (intros; contradiction)) only [ac, bd, C.at, C.put, List.dropLast, List.isPrefixOf, simprocAttr, an, bb, cl, bm, bj, if_pos, b7, bn, b4, b0, br, a7, a6] <;> exact rfl) (by first | assumption) (by simp (disch := first | omega | (intros; contradiction)) only [ac, bd, C.at, C.put, List.dropLast, List.isPrefixOf, simprocAttr, an, bb, cl, bm, bj, if_pos, b7, bn, b4, b0, br, a7, a6] <;> exact rfl) (hg k hkl) ?_
  rintro _ rfl
  repeat refine evF ?_
  refine aa (hK _ (dwK [0, 1, 5, 7, 8, 16] ?_))
  clear hK K
  refine dwI (fun hb => ?_) (fun hb => ?_)
  ·have hi : tb es.length b = k := w9 hkl hb hne
   refine ab (dwR fun K hK => ?_)
   repeat refine evF ?_
   refine aa (hK _ (dwK [4] ?_))
   clear hK K
   exact ak (aq Tryz.results58 (.one (.plain _ _ rfl)) (by decide) (by rw [hi]))
  ·refine ai ?_
   show DW _ _ _ _ _
   refine dwR fun K hK => ?_
   repeat refine evF ?_
   have dfk := @cd
   refine aa (hK _ ?_)
   clear hK K
   show ∃ x, _ ∧ _ ∧ Weak _ _
   refine ⟨k + 1, ?_, ?_, ay [0, 1, 7, 8]⟩
   ·refine ⟨hkl, fun j hj => ?_⟩
    rcases Nat.lt_or_ge j k with h | h
    ·exact hne j h
    ·obtain rfl : j = k := by omega
     exact hb
   ·omega
 ·have hkl : k = es.length := by
   have : ¬ (k : Int) < (es.length : Int) := by simpa using hb
   omega
  subst hkl
  have hi : tb es.length b = -1 := xb hne
  refine ap ?_
  refine bc [] (by simp only [ac, C.at, C.put, List.dropLast, List.isPrefixOf, simprocAttr]; exact rfl) ?_
  refine ab (dwR fun K hK => ?_)
  repeat refine evF ?_
  refine aa (hK _ (dwK [4] ?_))
  clear hK K
  exact ak (aq Tryz.results58 (.one (.plain _ _ rfl)) (by decide) (by rw [hi]))
end
section
set_option maxHeartbeats 0
set_option maxRecDepth 8000
open Go Go.RowKit
def zBDgs1 := PLift.up (And.intro an (And.intro bb (And.intro cl (And.intro bm (And.intro bj (And.intro @if_pos.{1} (And.intro @b7 (And.intro bn (And.intro @b4 (And.intro @b0 (And.intro @br (And.intro @a7 (And.intro @a6 (And.intro ew (And.intro @fb (And.intro @dm @trivial))))))))))))))))
theorem n6 : type_of% zBDgs1.down := zBDgs1.down
theorem ou (o : Bool) (t : TypeId) (es : List (Int × Int)) (g : FuncId) (css : List (List C)) (b : Nat → Bool) (hl : es.length ≤ 1000000) (hm : aj Tryz.prog g = true) (hg : ∀ j, j < es.length → DCalls Tryz.prog g ([.agg (eC (gp es j))] ++ css.map .rp) (fun r => r = [.c (.p (.bool (b j)))])) : DCalls Tryz.prog 185 [.c (.sl o t 2 (es.map eC)), .fn g css] (fun r => r = [.c (.p (.bool (rm es.length b)))]) := by
 refine ao Tryz.func185 rfl (by rw [Tryz.ntmps185]; simp) fun w0 => ?_
 rw [Tryz.ntmps185]
 have dfx := n6
 simp only [ce, be, Arg.av, bv, cm, ints, ends]
 refine ab (dwR fun K hK => ?_)
 repeat refine evF ?_
 refine aa (hK _ (dwK [0, 1] ?_))
 clear hK K
 refine ab (dwR fun K hK => ?_)
 repeat (apply cg; (focus exact rfl); (focus (simp (disch := first | omega | (intros; contradiction)) only [ac, bd, C.at, C.put, List.dropLast, List.isPrefixOf, simprocAttr, an, bb, cl, bm, bj, if_pos, b7, bn, b4, b0, br, a7, a6, ew, fb, dm , L9]; exact rfl)))
 refine ee rfl ⟨rfl, _, rfl⟩ (by omega) (by first | exact L9) (by simp (disch := first | omega | (intros; contradiction)) only [ac, bd, C.at, C.put, List.dropLast, List.isPrefixOf, simprocAttr, an, bb, cl, bm, bj, if_pos, b7, bn, b4, b0, br, a7, a6, ew, fb, dm , L9] <;> exact rfl) (F5 o t es g css b hl hm hg) ?_
 rintro _ rfl
 repeat (apply cg; (focus exact rfl); (focus (simp (disch := first | omega | (intros; contradiction)) only [ac, bd, C.at, C.put, List.dropLast, List.isPrefixOf, simprocAttr, an, bb, cl, bm, bj, if_pos, b7, bn, b4, b0, br, a7, a6, ew, fb, dm , L9]; exact rfl)))
 refine aa (hK _ (dwK [4] ?_))
 clear hK K
 exact ak (aq Tryz.results185 (.one (.plain _ _ rfl)) (by decide) (by rw [← Ff]))
theorem Fv (e : Int × Int) (u : Int) : DCalls Tryz.prog 186 [.agg (eC e), .rp [.p (.int .i64 u)]] (fun r => r = [.c (.p (.bool (e.1 == u)))]) := by -- params impl.End
 refine ao Tryz.func186 rfl (by rw [Tryz.ntmps186]; simp) fun w0 => ?_
 rw [Tryz.ntmps186]
 have dfx := n6
 simp only [ce, be, Arg.av, bv, cm, ints, ends, eC]
 refine ab (dwR fun K hK => ?_)
 repeat refine evF ?_
 refine aa (hK _ (dwK [1, 2] ?_))
 clear hK K
 refine ab (dwR fun K hK => ?_)
 repeat refine evF ?_
 refine aa (hK _ (dwK [3] ?_))
 clear hK K
 exact ak (aq Tryz.results186 (.one (.plain _ _ rfl)) (by decide) rfl)
theorem J9 (e : Int × Int) (o : Bool) (t : TypeId) (s : List Int) (hl : s.length ≤ 1000000) : DCalls Tryz.prog 187 [.agg (eC e), .rp [.sl o t 1 (s.map iC)]] (fun r => r = [.c (.p (.bool (decide (0 ≤ sx s e.1))))]) := by -- params impl.End
 refine ao Tryz.func187 rfl (by rw [Tryz.ntmps187]; simp) fun w0 => ?_
 rw [Tryz.ntmps187]
 have dfx := n6
 simp only [ce, be, Arg.av, bv, cm, ints, ends, eC]
 refine ab (dwR fun K hK => ?_)
 repeat refine evF ?_
 refine aa (hK _ (dwK [1, 2] ?_))
 clear hK K
 refine ab (dwR fun K hK => ?_)
 repeat (apply cg; (focus exact rfl); (focus (simp (disch := first | omega | (intros; contradiction)) only [ac, bd, C.at, C.put, List.dropLast, List.isPrefixOf, simprocAttr, an, bb, cl, bm, bj, if_pos, b7, bn, b4, b0, br, a7, a6, ew, fb, dm , pi]; exact rfl)))
 refine ee rfl ⟨rfl, _, rfl⟩ (by omega) (by first | exact pi) (by simp (disch := first | omega | (intros; contradiction)) only [ac, bd, C.at, C.put, List.dropLast, List.isPrefixOf, simprocAttr, an, bb, cl, bm, bj, if_pos, b7, bn, b4, b0, br, a7, a6, ew, fb, dm , pi] <;> exact rfl) (B8 o t s e.1 hl) ?_
 rintro _ rfl
 repeat (apply cg; (focus exact rfl); (focus (simp (disch := first | omega | (intros; contradiction)) only [ac, bd, C.at, C.put, List.dropLast, List.isPrefixOf, simprocAttr, an, bb, cl, bm, bj, if_pos, b7, bn, b4, b0, br, a7, a6, ew, fb, dm , pi]; exact rfl)))
 refine aa (hK _ (dwK [3] ?_))
 clear hK K
 exact ak (aq Tryz.results187 (.one (.plain _ _ rfl)) (by decide) rfl)
def Mb (N : Net) (v : Nat) (u : Int) : Bool := rm (gl N.ends v).length fun j => (gp (gl N.ends v) j).1 == u
def L7 (N : Net) (v : Nat) (s : List Int) : Bool := rm (gl N.ends v).length fun j => decide (0 ≤ sx s (gp (gl N.ends v) j).1)
theorem Io (f : NF) (N : Net) (v : Nat) (u : Int) (hg : bz N = true) (hv : v < N.ends.length) : DCalls Tryz.prog 138 [.agg (bv f N), .c (.p (.int .i64 v)), .c (.p (.int .i64 u))] (fun r => r = [.c (.p (.bool (Mb N v u)))]) := by -- params impl.Network, int, int
 obtain ⟨hs, hn, hids, hdg⟩ := dh hg
 have hd := hdg v
 refine ao Tryz.func138 rfl (by rw [Tryz.ntmps138]; simp) fun w0 => ?_
 rw [Tryz.ntmps138]
 have dfx := n6
 simp only [ce, be, Arg.av, bv, cm, ints, ends]
 refine ab (dwR fun K hK => ?_)
 repeat refine evF ?_
 refine aa (hK _ (dwK [1, 3, 5] ?_))
 clear hK K
 refine ab (dwR fun K hK => ?_)
 repeat (apply cg; (focus exact rfl); (focus (simp (disch := first | omega | (intros; contradiction)) only [ac, bd, C.at, C.put, List.dropLast, List.isPrefixOf, simprocAttr, an, bb, cl, bm, bj, if_pos, b7, bn, b4, b0, br, a7, a6, ew, fb, dm , ph, Int.toNat_natCast]; exact rfl)))
 refine ee rfl ⟨rfl, _, rfl⟩ (by omega) (by first | exact ph) (by simp (disch := first | omega | (intros; contradiction)) only [ac, bd, C.at, C.put, List.dropLast, List.isPrefixOf, simprocAttr, an, bb, cl, bm, bj, if_pos, b7, bn, b4, b0, br, a7, a6, ew, fb, dm , ph] <;> exact rfl) (ou f.o2 f.t2 (gl N.ends v) 186 [[.p (.int .i64 u)]] (fun j => (gp (gl N.ends v) j).1 == u) (by omega) W1 fun j _ => Fv (gp (gl N.ends v) j) u) ?_
 rintro _ rfl
 repeat (apply cg; (focus exact rfl); (focus (simp (disch := first | omega | (intros; contradiction)) only [ac, bd, C.at, C.put, List.dropLast, List.isPrefixOf, simprocAttr, an, bb, cl, bm, bj, if_pos, b7, bn, b4, b0, br, a7, a6, ew, fb, dm , ph]; exact rfl)))
 refine aa (hK _ (dwK [6] ?_))
 clear hK K
 exact ak (aq Tryz.results138 (.one (.plain _ _ rfl)) (by decide) rfl)
theorem Ov (f : NF) (N : Net) (v : Nat) (o : Bool) (t : TypeId) (s : List Int) (hg : bz N = true) (hv : v < N.ends.length) (hl : s.length ≤ 1000000) : DCalls Tryz.prog 139 [.agg (bv f N), .c (.p (.int .i64 v)), .c (.sl o t 1 (s.map iC))] (fun r => r = [.c (.p (.bool (L7 N v s)))]) := by -- params impl.Network, int, []int
 obtain ⟨hs, hn, hids, hdg⟩ := dh hg
 have hd := hdg v
 refine ao Tryz.func139 rfl (by rw [Tryz.ntmps139]; simp) fun w0 => ?_
 rw [Tryz.ntmps139]
 have dfx := n6
 simp only [ce, be, Arg.av, bv, cm, ints, ends]
 refine ab (dwR fun K hK => ?_)
 repeat refine evF ?_
 refine aa (hK _ (dwK [1, 3, 5] ?_))
 clear hK K
 refine ab (dwR fun K hK => ?_)
 repeat (apply cg; (focus exact rfl); (focus (simp (disch := first | omega | (intros; contradiction)) only [ac, bd, C.at, C.put, List.dropLast, List.isPrefixOf, simprocAttr, an, bb, cl, bm, bj, if_pos, b7, bn, b4, b0, br, a7, a6, ew, fb, dm , ph, Int.toNat_natCast]; exact rfl)))
 refine ee rfl ⟨rfl, _, rfl⟩ (by omega) (by first | exact ph) (by simp (disch := first | omega | (intros; contradiction)) only [ac, bd, C.at, C.put, List.dropLast, List.isPrefixOf, simprocAttr, an, bb, cl, bm, bj, if_pos, b7, bn, b4, b0, br, a7, a6, ew, fb, dm , ph] <;> exact rfl) (ou f.o2 f.t2 (gl N.ends v) 187 [[.sl false t 1 (s.map iC)]] (fun j => decide (0 ≤ sx s (gp (gl N.ends v) j).1)) (by omega) W0 fun j _ => J9 (gp (gl N.ends v) j) false t s hl) ?_
 rintro _ rfl
 repeat (apply cg; (focus exact rfl); (focus (simp (disch := first | omega | (intros; contradiction)) only [ac, bd, C.at, C.put, List.dropLast, List.isPrefixOf, simprocAttr, an, bb, cl, bm, bj, if_pos, b7, bn, b4, b0, br, a7, a6, ew, fb, dm , ph]; exact rfl)))
 refine aa (hK _ (dwK [6] ?_))
 clear hK K
 exact ak (aq Tryz.results139 (.one (.plain _ _ rfl)) (by decide) rfl)
def kz (N : Net) (v : Nat) (s : List Int) : Bool := Mb N v v || L7 N v s
theorem pv (f : NF) (N : Net) (o : Bool) (t : TypeId) (ord : List Int) (hg : bz N = true) (hp : dx ord N.ends.length = true) (hne : 0 < (ec (kz N) ord N.ends.length).length) : DCalls Tryz.prog 95 [.agg (bv f N), .c (.sl o t 1 (ord.map iC))] (fun r => r = [.own false [.sl true 3 1 ((sorted (ec (kz N) ord N.ends.length)).map iC)]]) := by -- params impl.Network, []int
 obtain ⟨hs, hn, hids, hdg⟩ := dh hg
 obtain ⟨hol, hoi, hod⟩ := lz hp
 refine ao Tryz.func95 rfl (by rw [Tryz.ntmps95]; simp) fun w0 => ?_
 rw [Tryz.ntmps95]
 have dfx := n6
 simp only [ce, be, Arg.av, bv, cm, ints, ends]
 refine ab (dwR fun K hK => ?_)
 repeat refine evF ?_
 refine aa (hK _ (dwK [1, 2] ?_))
 clear hK K
 refine ab (dwR fun K hK => ?_)
 repeat refine evF ?_
 refine aa (hK _ (dwK [1, 2, 5] ?_))
 clear hK K
 refine ab ?_
 have dfx := And.intro dfx (@hol)
 refine ab (dwR fun K hK => ?_)
 repeat refine evF ?_
 have dfk := @hol
 refine aa (hK _ (a8 [2, 5, 8, 9, 10] ?_))
 clear hK K
 refine ae ?_
 refine jw 5 3 1 (by decide) (by simp only [ac, C.at, C.put, List.dropLast, List.isPrefixOf, simprocAttr]) [2, 5, 8, 9, 10] (by simp only [ac, C.at, C.put, List.dropLast, List.isPrefixOf, simprocAttr]; exact rfl) ?_
 refine ax (X := Nat) (fun k => k ≤ N.ends.length) (fun k => [(10, .c (.p (.int .i64 k)))]) (fun k => [((5, 0), ⟨none, [.sl true 3 1 ((ec (kz N) ord k).map iC)]⟩)]) (fun k => N.ends.length - k) 0 (Nat.zero_le _) (by first | rfl | (simp only [ac, C.at, C.put, List.dropLast, List.isPrefixOf, simprocAttr, Int.natCast_zero, ec] <;> rfl)) ?_
 rintro k hk
 intro E hE
 simp only [ac, C.at, C.put, List.dropLast, List.isPrefixOf, simprocAttr] at hE
 subst hE
 have hgl := mz (bad := kz N) (ord := ord) k
 refine ab (dwR fun K hK => ?_)
 repeat refine evF ?_
 refine aa (hK _ (dwK [2, 5, 8, 9, 10, 11] ?_))
 clear hK K
 refine ab (dwI (fun hb => ?_) (fun hb => ?_))
 ·have hk1 : k < N.ends.length := by simpa using hb
  obtain ⟨v, hve⟩ : ∃ v : Nat, gi ord k = v := ⟨(gi ord k).toNat, by have := hoi k hk1; omega⟩
  have hvl : v < N.ends.length := by have := hoi k hk1; omega
  have hns : ec (kz N) ord (k + 1) = if kz N v (ec (kz N) ord k) = true then ec (kz N) ord k else ec (kz N) ord k ++ [(v : Int)] := by rw [ec, hve, Int.toNat_natCast]
  obtain ⟨S, hS⟩ : ∃ S, S = ec (kz N) ord k := ⟨_, rfl⟩
  rw [← hS] at hns hgl ⊢
  refine ai ?_
  show DW _ _ _ _ _
  refine ab (ae ?_)
  have dfx := And.intro dfx (@hve)
  refine ab (dwR fun K hK => ?_)
  repeat refine evF ?_
  have dfk := @hve
  refine aa (hK _ (a8 [2, 5, 7, 8, 9, 10] ?_))
  clear hK K
  refine ab (dwR fun K hK => ?_)
  repeat refine evF ?_
  refine clF rfl ⟨rfl, _, rfl⟩ (by omega) (by first | exact Ro | exact Rn) (Io ⟨false, f.t1, f.o2, f.t2, false, f.t3, false, f.t4⟩ N v v hg hvl) ?_
  rintro _ rfl
  repeat refine evF ?_
  obtain h1 | h1 := Bool.eq_false_or_eq_true (Mb N v v)
  ·have hm : ec (kz N) ord (k + 1) = S := by rw [hns, if_pos (by simp [kz, h1])]
   have dfx := And.intro dfx (@h1)
   repeat refine evF ?_
   have dfx := And.intro dfx (@h1)
   refine csF ?_
   repeat refine evF ?_
   have dfx := And.intro dfx (@h1)
   repeat refine evF ?_
   have dfk := @h1
   refine aa (hK _ (a8 [2, 5, 7, 8, 9, 10, 25] ?_))
   clear hK K
   refine dwI (fun hb => ?_) (fun hb => ?_)
   ·cases hb
   ·refine ai ?_
    show DW _ _ _ _ _
    refine dwR fun K hK => ?_
    repeat refine evF ?_
    have dfk := And.intro @cd @hm
    refine aa (hK _ ?_)
    clear hK K
    show ∃ x, _ ∧ _ ∧ Weak _ _
    refine ⟨k + 1, ?_, ?_, ay [2, 5, 8, 9, 10]⟩
    ·omega
    ·omega
  ·have dfx := And.intro dfx (@h1)
   repeat refine evF ?_
   have dfx := And.intro dfx (@h1)
   refine cgF rfl rfl ⟨rfl, _, rfl⟩ (by omega) (by first | exact Ro | exact Rn) (Ov ⟨false, f.t1, f.o2, f.t2, false, f.t3, false, f.t4⟩ N v true 3 S hg hvl (by omega)) ?_
   rintro _ rfl
   repeat refine evF ?_
   obtain h2 | h2 := Bool.eq_false_or_eq_true (L7 N v S)
   ·have hm : ec (kz N) ord (k + 1) = S := by rw [hns, if_pos (by simp [kz, h1, h2])]
    have dfx := And.intro dfx (And.intro @h1 @h2)
    repeat refine evF ?_
    have dfk := And.intro @h1 @h2
    refine aa (hK _ (a8 [2, 5, 7, 8, 9, 10, 25] ?_))
    clear hK K
    refine dwI (fun hb => ?_) (fun hb => ?_)
    ·cases hb
    ·refine ai ?_
     show DW _ _ _ _ _
     refine dwR fun K hK => ?_
     repeat refine evF ?_
     have dfk := And.intro @cd @hm
     refine aa (hK _ ?_)
     clear hK K
     show ∃ x, _ ∧ _ ∧ Weak _ _
     refine ⟨k + 1, ?_, ?_, ay [2, 5, 8, 9, 10]⟩
     ·omega
     ·omega
   ·have hm : ec (kz N) ord (k + 1) = S ++ [(v : Int)] := by rw [hns, if_neg (by simp [kz, h1, h2])]
    have dfx := And.intro dfx (And.intro @h1 @h2)
    repeat refine evF ?_
    have dfk := And.intro @h1 @h2
    refine aa (hK _ (a8 [2, 5, 7, 8, 9, 10, 25] ?_))
    clear hK K
    refine dwI (fun hb => ?_) (fun hb => ?_)
    ·refine dwR fun K hK => ?_
     repeat refine evF ?_
     have dfk := @fo
     refine aa (hK _ (a8 [2, 5, 8, 9, 10] ?_))
     clear hK K
     refine dwR fun K hK => ?_
     repeat refine evF ?_
     have dfk := And.intro @cd @hm
     refine aa (hK _ ?_)
     clear hK K
     show ∃ x, _ ∧ _ ∧ Weak _ _
     refine ⟨k + 1, ?_, ?_, ay [2, 5, 8, 9, 10]⟩
     ·omega
     ·omega
    ·cases hb
 ·have hk2 : k = N.ends.length := by
   have : ¬ k < N.ends.length := by simpa using hb
   omega
  rw [hk2]
  refine ap ?_
  refine bc [5] (by simp only [ac, C.at, C.put, List.dropLast, List.isPrefixOf, simprocAttr]; exact rfl) ?_
  refine ab (Mi (r := 5) (s := 31) (d := 32) (t := 3) (xs := ec (kz N) ord N.ends.length) rfl rfl rfl rfl rfl rfl rfl rfl (by show 31 < 34; omega) (by show 32 < 34; omega) (by omega) (by omega) hne (by have := mz (bad := kz N) (ord := ord) N.ends.length; omega) ?_)
  refine bc [5] (by simp only [ac, C.at, C.put, List.dropLast, List.isPrefixOf, simprocAttr]; exact rfl) ?_
  refine ab (dwR fun K hK => ?_)
  repeat refine evF ?_
  refine aa (hK _ (dwK [4] ?_))
  clear hK K
  exact ak (aq Tryz.results95 (.one (.own _ _ _ _ rfl rfl (own1 (cq _ _)))) (by decide) rfl)
theorem rn (f : NF) (N : Net) (o : Bool) (t : TypeId) (ord : List Int) (hg : bz N = true) (hp : dx ord N.ends.length = true) (hne : 0 < (ec (kz N) ord N.ends.length).length) : DCalls Tryz.prog 37 [.agg (bv f N), .c (.sl o t 1 (ord.map iC))] (fun r => r = [.own false [.sl true 3 1 ((sorted (ec (kz N) ord N.ends.length)).map iC)], .c (.p (.bool true))]) := by -- params impl.Network, []int
 obtain ⟨hs, hn, hids, hdg⟩ := dh hg
 refine ao Tryz.func37 rfl (by rw [Tryz.ntmps37]; simp) fun w0 => ?_
 rw [Tryz.ntmps37]
 have dfx := n6
 simp only [ce, be, Arg.av, bv, cm, ints, ends]
 refine ab (dwR fun K hK => ?_)
 repeat refine evF ?_
 refine aa (hK _ (dwK [1, 2] ?_))
 clear hK K
 refine ab ?_
 refine ab (dwR fun K hK => ?_)
 repeat refine evF ?_
 refine clF rfl ⟨rfl, _, rfl⟩ (by omega) (by first | exact pg | exact L8) (f6 ⟨false, f.t1, f.o2, f.t2, false, f.t3, false, f.t4⟩ N hids) ?_
 rintro _ rfl
 repeat refine evF ?_
 have dfx := And.intro dfx (@hg)
 repeat refine evF ?_
 have dfx := And.intro dfx (@hg)
 refine cgF rfl rfl ⟨rfl, _, rfl⟩ (by omega) (by first | exact pg | exact L8) (om o t ord N.ends.length (by omega)) ?_
 rintro _ rfl
 repeat refine evF ?_
 have dfx := And.intro dfx (And.intro @hg @hp)
 repeat refine evF ?_
 have dfk := And.intro @hg @hp
 refine aa (hK _ (a8 [1, 2, 16] ?_))
 clear hK K
 refine dwI (fun hb => ?_) (fun hb => ?_)
 ·cases hb
 ·refine ai ?_
  show DW _ _ _ _ _
  refine ab (dwR fun K hK => ?_)
  repeat refine evF ?_
  refine clF rfl ⟨rfl, _, rfl⟩ (by omega) (by first | exact Y8) (pv ⟨false, f.t1, f.o2, f.t2, false, f.t3, false, f.t4⟩ N o t ord hg hp hne) ?_
  rintro _ rfl
  repeat refine evF ?_
  refine aa (hK _ (dwK [4, 5] ?_))
  clear hK K
  exact ak (aq Tryz.results37 (.two (.own _ _ _ _ rfl rfl (own1 (cq _ _))) (.plain _ _ rfl)) (by decide) rfl)
def greedyRulingSt1 : Nat → Stat
 | 0 => ⟨[1], [], [], [6], [], []⟩
 | 1 => ⟨[2], [], [], [7], [], []⟩
 | 2 => ⟨[6, 7], [], [], [8], [], []⟩
 | 3 => ⟨[8], [], [], [9], [], []⟩
 | 4 => ⟨[0], [], [], [10], [], []⟩
 | 5 => ⟨[9, 10], [], [], [11], [], []⟩
 | 6 => ⟨[11], [], [], [12], [], []⟩
 | 7 => ⟨[3], [], [], [13], [], []⟩
 | 8 => ⟨[13], [], [], [14], [], []⟩
 | 9 => ⟨[12, 14], [], [], [15], [], []⟩
 | 10 => ⟨[15], [], [], [5], [], []⟩
 | _ => ⟨[], [], [], [], [], []⟩
theorem yp (o : Bool) (t t2 : TypeId) (L : List (List Int)) (v w : Nat) (al : Int) (hv : v < L.length) (hw : w < (lg L v).length) (h1 : 0 ≤ al) (h2 : al ≤ 1000) : DCalls Tryz.prog 92 [.c (.p (.int .i64 w)), .rp [.sl o t 1 (L.map (lsC t2))], .rp [.p (.int .i64 v)], .rp [.p (.int .i64 al)]] (fun r => r = [.c (.p (.bool (inB (gi (lg L v) w) 0 (al - 1))))]) := by -- params int
 refine ao Tryz.func92 rfl (by rw [Tryz.ntmps92]; simp) fun w0 => ?_
 rw [Tryz.ntmps92]
 have dfx := n6
 simp only [ce, be, Arg.av, bv, cm, ints, ends]
 refine ab (dwR fun K hK => ?_)
 repeat refine evF ?_
 refine aa (hK _ (dwK [0, 1, 2, 3] ?_))
 clear hK K
 have dfx := And.intro dfx (And.intro @greedyRulingSt1.eq_def @Int.toNat_natCast)
 refine ab (gk greedyRulingSt1 (fun j r => match j with | 9 => r = [.c (.p (.bool (inB (gi (lg L v) w) 0 (al - 1))))] | _ => True) fun K hK => ?_)
 repeat refine dvF ?_
 have dfx := And.intro dfx (@greedyRulingSt1.eq_def)
 refine dcF rfl ⟨rfl, _, rfl⟩ (by omega) (by first | exact j3) (ft (gi (lg L v) w) 0 (al - 1)) ?_
 rintro _ rfl
 repeat refine dvF ?_
 refine bt (hK _ (dwK [5] ?_))
 clear hK K
 exact ak (aq Tryz.results92 (.one (.plain _ _ rfl)) (by decide) rfl)
noncomputable def jy (N : Net) (al : Int) (v : Nat) (s : List Int) : Bool := rm s.length fun j => inB (gi (bo N v) (gi s j).toNat) 0 (al - 1)
theorem B7 (f : NF) (N : Net) (o : Bool) (t : TypeId) (ord : List Int) (al : Nat) (hg : bz N = true) (hp : dx ord N.ends.length = true) (h1 : 1 ≤ al) (h2 : al ≤ 40) : DCalls Tryz.prog 36 [.agg (bv f N), .c (.sl o t 1 (ord.map iC)), .c (.p (.int .i64 al))] (fun r => r = [.own false [.sl true 3 1 ((sorted (ec (jy N al) ord N.ends.length)).map iC)], .c (.p (.bool true))]) := by -- params impl.Network, []int, int
 obtain ⟨hs, hn, hids, hdg⟩ := dh hg
 obtain ⟨hol, hoi, hod⟩ := lz hp
 have hin : inB (al : Int) 1 40 = true := cf.2 (by omega)
 have hal : (K3 N).length = N.ends.length := kg _ _
 have hne : 0 < (ec (jy N al) ord N.ends.length).length := Bi (fun v => rfl) _ (by omega)
 refine ao Tryz.func36 rfl (by rw [Tryz.ntmps36]; simp) fun w0 => ?_
 rw [Tryz.ntmps36]
 have dfx := n6
 simp only [ce, be, Arg.av, bv, cm, ints, ends]
 refine ab (dwR fun K hK => ?_)
 repeat refine evF ?_
 refine aa (hK _ (dwK [1, 3, 5] ?_))
 clear hK K
 refine ab ?_
 refine ab (dwR fun K hK => ?_)
 repeat refine evF ?_
 refine clF rfl ⟨rfl, _, rfl⟩ (by omega) (by first | exact Bb | exact j3) (qw ⟨false, f.t1, f.o2, f.t2, false, f.t3, false, f.t4⟩ N o t ord hg hp) ?_
 rintro _ rfl
 repeat refine evF ?_
 refine cgF rfl rfl ⟨rfl, _, rfl⟩ (by omega) (by first | exact Bb | exact j3) (ft al 1 40) ?_
 rintro _ rfl
 repeat refine evF ?_
 have dfx := And.intro dfx (@hin)
 repeat refine evF ?_
 have dfk := @hin
 refine aa (hK _ (a8 [1, 3, 5, 20] ?_))
 clear hK K
 refine dwI (fun hb => ?_) (fun hb => ?_)
 ·cases hb
 ·refine ai ?_
  show DW _ _ _ _ _
  refine ab (dwR fun K hK => ?_)
  repeat refine evF ?_
  refine clF rfl ⟨rfl, _, rfl⟩ (by omega) (by first | exact Vm) (qf ⟨false, f.t1, f.o2, f.t2, false, f.t3, false, f.t4⟩ N hg) ?_
  rintro _ rfl
  repeat refine evF ?_
  refine aa (hK _ (dwK [1, 5, 8] ?_))
  clear hK K
  refine ab (dwR fun K hK => ?_)
  repeat refine evF ?_
  refine aa (hK _ (dwK [1, 5, 8, 9] ?_))
  clear hK K
  refine ab ?_
  have dfx := And.intro dfx (@hol)
  refine ab (dwR fun K hK => ?_)
  repeat refine evF ?_
  have dfk := @hol
  refine aa (hK _ (a8 [5, 8, 9, 23, 24, 25] ?_))
  clear hK K
  refine ae ?_
  refine jw 9 3 1 (by decide) (by simp only [ac, C.at, C.put, List.dropLast, List.isPrefixOf, simprocAttr]) [5, 8, 9, 23, 24, 25] (by simp only [ac, C.at, C.put, List.dropLast, List.isPrefixOf, simprocAttr]; exact rfl) ?_
  refine ax (X := Nat) (fun k => k ≤ N.ends.length) (fun k => [(25, .c (.p (.int .i64 k)))]) (fun k => [((9, 0), ⟨none, [.sl true 3 1 ((ec (jy N al) ord k).map iC)]⟩)]) (fun k => N.ends.length - k) 0 (Nat.zero_le _) (by first | rfl | (simp only [ac, C.at, C.put, List.dropLast, List.isPrefixOf, simprocAttr, Int.natCast_zero, ec] <;> rfl)) ?_
  rintro k hk
  intro E hE
  simp only [ac, C.at, C.put, List.dropLast, List.isPrefixOf, simprocAttr] at hE
  subst hE
  have hgl := mz (bad := jy N al) (ord := ord) k
  refine ab (dwR fun K hK => ?_)
  repeat refine evF ?_
  refine aa (hK _ (dwK [5, 8, 9, 23, 24, 25, 26] ?_))
  clear hK K
  refine ab (dwI (fun hb => ?_) (fun hb => ?_))
  ·have hk1 : k < N.ends.length := by simpa using hb
   obtain ⟨v, hve⟩ : ∃ v : Nat, gi ord k = v := ⟨(gi ord k).toNat, by have := hoi k hk1; omega⟩
   have hvl : v < N.ends.length := by have := hoi k hk1; omega
   have hns : ec (jy N al) ord (k + 1) = if jy N al v (ec (jy N al) ord k) = true then ec (jy N al) ord k else ec (jy N al) ord k ++ [(v : Int)] := by rw [ec, hve, Int.toNat_natCast]
   have hmem : ∀ j, j < (ec (jy N al) ord k).length → ∃ w : Nat, gi (ec (jy N al) ord k) j = w ∧ w < N.ends.length := fun j hj => by
    obtain ⟨i, hi, he⟩ := uw (bad := jy N al) (ord := ord) k (List.getElem_mem hj)
    have h3 := hoi i (by omega)
    exact ⟨(gi ord i).toNat, by rw [b6 hj, he]; omega, by omega⟩
   have hlg : lg (K3 N) v = bo N v := sn hvl
   have hdl : (bo N v).length = N.ends.length := (di hs hvl).len
   obtain ⟨S, hS⟩ : ∃ S, S = ec (jy N al) ord k := ⟨_, rfl⟩
   rw [← hS] at hns hgl hmem ⊢
   have hclo : ∀ j, j < S.length → DCalls Tryz.prog 92 ([.c (.p (.int .i64 (gi S j)))] ++ [[C.sl true 25 1 ((K3 N).map (lsC 3))], [C.p (.int .i64 v)], [C.p (.int .i64 (al : Int))]].map .rp) (fun r => r = [.c (.p (.bool (inB (gi (bo N v) (gi S j).toNat) 0 ((al : Int) - 1))))]) := fun j hj => by
    obtain ⟨w, hw1, hw2⟩ := hmem j hj
    rw [hw1, Int.toNat_natCast, ← hlg]
    exact yp true 25 3 (K3 N) v w al (by omega) (by rw [hlg, hdl]; exact hw2) (by omega) (by omega)
   refine ai ?_
   show DW _ _ _ _ _
   refine ab (ae ?_)
   have dfx := And.intro dfx (@hve)
   refine ab (dwR fun K hK => ?_)
   repeat refine evF ?_
   have dfk := @hve
   refine aa (hK _ (a8 [5, 8, 9, 11, 23, 24, 25] ?_))
   clear hK K
   refine ab (dwR fun K hK => ?_)
   repeat (apply cg; (focus exact rfl); (focus (simp (disch := first | omega | (intros; contradiction)) only [ac, bd, C.at, C.put, List.dropLast, List.isPrefixOf, simprocAttr, an, bb, cl, bm, bj, if_pos, b7, bn, b4, b0, br, a7, a6, ew, fb, dm , x7]; exact rfl)))
   refine ee rfl ⟨rfl, _, rfl⟩ (by omega) (by first | exact x7) (by simp (disch := first | omega | (intros; contradiction)) only [ac, bd, C.at, C.put, List.dropLast, List.isPrefixOf, simprocAttr, an, bb, cl, bm, bj, if_pos, b7, bn, b4, b0, br, a7, a6, ew, fb, dm , x7] <;> exact rfl) (qk true 3 S 92 _ (fun j => inB (gi (bo N v) (gi S j).toNat) 0 ((al : Int) - 1)) (by omega) Za hclo) ?_
   rintro _ rfl
   repeat (apply cg; (focus exact rfl); (focus (simp (disch := first | omega | (intros; contradiction)) only [ac, bd, C.at, C.put, List.dropLast, List.isPrefixOf, simprocAttr, an, bb, cl, bm, bj, if_pos, b7, bn, b4, b0, br, a7, a6, ew, fb, dm , x7]; exact rfl)))
   refine aa (hK _ (dwK [5, 8, 9, 11, 23, 24, 25, 32] ?_))
   clear hK K
   refine dwI (fun hb => ?_) (fun hb => ?_)
   ·have hm : ec (jy N al) ord (k + 1) = S ++ [(v : Int)] := by
     have hbb : jy N al v S = false := by simpa [jy] using hb
     rw [hns, if_neg (by rw [hbb]; decide)]
    refine dwR fun K hK => ?_
    repeat refine evF ?_
    have dfk := @fo
    refine aa (hK _ (a8 [5, 8, 9, 23, 24, 25] ?_))
    clear hK K
    refine dwR fun K hK => ?_
    repeat refine evF ?_
    have dfk := And.intro @cd @hm
    refine aa (hK _ ?_)
    clear hK K
    show ∃ x, _ ∧ _ ∧ Weak _ _
    refine ⟨k + 1, ?_, ?_, ay [5, 8, 9, 23, 24, 25]⟩
    ·omega
    ·omega
   ·have hm : ec (jy N al) ord (k + 1) = S := by
     have hbb : jy N al v S = true := by simpa [jy] using hb
     rw [hns, if_pos hbb]
    refine ai ?_
    show DW _ _ _ _ _
    refine dwR fun K hK => ?_
    repeat refine evF ?_
    have dfk := And.intro @cd @hm
    refine aa (hK _ ?_)
    clear hK K
    show ∃ x, _ ∧ _ ∧ Weak _ _
    refine ⟨k + 1, ?_, ?_, ay [5, 8, 9, 23, 24, 25]⟩
    ·omega
    ·omega
  ·have hk2 : k = N.ends.length := by
    have : ¬ k < N.ends.length := by simpa using hb
    omega
   rw [hk2]
   refine ap ?_
   refine bc [9] (by simp only [ac, C.at, C.put, List.dropLast, List.isPrefixOf, simprocAttr]; exact rfl) ?_
   refine ab (Mi (r := 9) (s := 38) (d := 39) (t := 3) (xs := ec (jy N al) ord N.ends.length) rfl rfl rfl rfl rfl rfl rfl rfl (by show 38 < 41; omega) (by show 39 < 41; omega) (by omega) (by omega) hne (by have := mz (bad := jy N al) (ord := ord) N.ends.length; omega) ?_)
   refine bc [9] (by simp only [ac, C.at, C.put, List.dropLast, List.isPrefixOf, simprocAttr]; exact rfl) ?_
   refine ab (dwR fun K hK => ?_)
   repeat refine evF ?_
   refine aa (hK _ (dwK [6, 7] ?_))
   clear hK K
   exact ak (aq Tryz.results36 (.two (.own _ _ _ _ rfl rfl (own1 (cq _ _))) (.plain _ _ rfl)) (by decide) rfl)
end
section
open Go Go.RowKit
def fl1 (n k : Nat) : List Int := List.replicate k (-1) ++ List.replicate (n - k) 0
theorem R6 (n : Nat) : fl1 n 0 = List.replicate n 0 := rfl
theorem Um (n : Nat) : fl1 n n = List.replicate n (-1) := by simp [fl1]
theorem Mg {n k : Nat} (h : k ≤ n) : (fl1 n k).length = n := by simp [fl1]; omega
theorem Ul {n k : Nat} (h : k < n) : (fl1 n k).set k (-1) = fl1 n (k + 1) := by
 unfold fl1
 rw [List.set_append_right _ _ (by simp), List.length_replicate, Nat.sub_self, show n - k = (n - (k + 1)) + 1 by omega, List.replicate_succ, List.set_cons_zero, List.replicate_succ', List.append_assoc]
 rfl
theorem Ua {N : Net} {w i : Nat} (h : i < (gl N.ends w).length) : gi (fy N w (gl N.ends w).length) i = (gp (gl N.ends w) i).1 := by
 have hl : i < (fy N w (gl N.ends w).length).length := by rw [ui (Nat.le_refl _)]; exact h
 rw [b6 hl, ib h]
 simp [fy]
theorem Vb (done q : List Nat) (w : Nat) : gi (zI (done ++ w :: q)) done.length = w := by
 simp [gi, zI]
def meFromSt12 : Nat → Stat
 | 0 => ⟨[2], [(2, 1)], [], [35], [], []⟩
 | 1 => ⟨[7], [], [], [36], [], []⟩
 | 2 => ⟨[8], [], [], [37], [], []⟩
 | 3 => ⟨[36, 37], [(7, 1)], [], [38], [], []⟩
 | 4 => ⟨[38], [(7, 2)], [], [39], [], []⟩
 | 5 => ⟨[35, 39], [], [], [40], [], []⟩
 | 6 => ⟨[40], [(40, 1)], [], [41], [], []⟩
 | 7 => ⟨[], [], [], [42], [], []⟩
 | _ => ⟨[], [], [], [], [], []⟩
def zBDms1 := PLift.up (And.intro an (And.intro bb (And.intro cl (And.intro bm (And.intro bj (And.intro @if_pos.{1} (And.intro @b7 (And.intro bn (And.intro @b4 (And.intro @b0 (And.intro @br (And.intro @a7 (And.intro @a6 @trivial)))))))))))))
theorem Xr : type_of% zBDms1.down := zBDms1.down
set_option maxRecDepth 8000 in
set_option maxHeartbeats 0 in
theorem Rd (f : NF) (N : Net) (v : Nat) (hs : Sym N.ends) (hv : v < N.ends.length) (hn : N.ends.length ≤ 1000) (hdg : ∀ a, (gl N.ends a).length ≤ 1000) : DCalls Tryz.prog 61 [.agg (bv f N), .c (.p (.int .i64 v))] (fun r => r = [.own false [.sl true 3 1 ((bo N v).map iC)]]) := by
 have hz := R6 N.ends.length
 refine ao Tryz.func61 rfl (by rw [Tryz.ntmps61]; simp) fun w0 => ?_
 rw [Tryz.ntmps61]
 have dfx := Xr
 simp only [ce, be, Arg.av, bv, cm, ints, ends]
 refine ab (dwR fun K hK => ?_)
 repeat refine evF ?_
 refine aa (hK _ (dwK [1, 2] ?_))
 clear hK K
 refine ab (dwR fun K hK => ?_)
 repeat refine evF ?_
 have dfk := And.intro @Yb (Eq.symm hz)
 refine aa (hK _ (a8 [1, 2, 5] ?_))
 clear hK K
 refine ab ?_
 have hl0 := Mg (Nat.zero_le N.ends.length)
 refine ab (dwR fun K hK => ?_)
 repeat refine evF ?_
 have dfk := @hl0
 refine aa (hK _ (a8 [1, 2, 5, 16, 17] ?_))
 clear hK K
 refine ae ?_
 refine ax (X := Nat) (fun k => k ≤ N.ends.length) (fun k => [(17, .c (.p (.int .i64 k)))]) (fun k => [((5, 0), ⟨none, [.sl true 3 1 ((fl1 N.ends.length k).map iC)]⟩)]) (fun k => N.ends.length - k) 0 (Nat.zero_le _) (by first | rfl | (simp only [ac, C.at, C.put, List.dropLast, List.isPrefixOf, simprocAttr, Int.natCast_zero] <;> rfl)) ?_
 rintro k hk
 intro E hE
 simp only [ac, C.at, C.put, List.dropLast, List.isPrefixOf, simprocAttr] at hE
 subst hE
 have hlk := Mg hk
 refine ab (dwR fun K hK => ?_)
 repeat refine evF ?_
 refine aa (hK _ (dwK [1, 2, 5, 16, 17, 18] ?_))
 clear hK K
 refine ab (dwI (fun hb => ?_) (fun hb => ?_))
 ·have hkl : k < N.ends.length := by simpa using hb
  have hst := Ul hkl
  refine ai ?_
  show DW _ _ _ _ _
  refine ab (ae ?_)
  refine ab (dwR fun K hK => ?_)
  repeat refine evF ?_
  refine aa (hK _ (dwK [1, 2, 5, 6, 16, 17] ?_))
  clear hK K
  refine dwR fun K hK => ?_
  repeat refine evF ?_
  have dfk := And.intro @Al @hst
  refine aa (hK _ (a8 [1, 2, 5, 16, 17] ?_))
  clear hK K
  refine dwR fun K hK => ?_
  repeat refine evF ?_
  have dfk := @cd
  refine aa (hK _ ?_)
  clear hK K
  show ∃ x, _ ∧ _ ∧ Weak _ _
  refine ⟨k + 1, ?_, ?_, ay [1, 2, 5, 16, 17]⟩
  ·omega
  ·omega
 ·have hk2 : k = N.ends.length := by
   have : ¬ k < N.ends.length := by simpa using hb
   omega
  subst hk2
  have hfa := Um N.ends.length
  refine ap ?_
  refine bc [1, 2, 5] (by simp only [ac, C.at, C.put, List.dropLast, List.isPrefixOf, simprocAttr]; exact rfl) ?_
  refine ab (dwR fun K hK => ?_)
  repeat refine evF ?_
  have dfk := And.intro @Al @hfa
  refine aa (hK _ (a8 [1, 2, 5] ?_))
  clear hK K
  refine ab (dwR fun K hK => ?_)
  repeat refine evF ?_
  refine aa (hK _ (dwK [2, 5, 7] ?_))
  clear hK K
  refine ab ?_
  refine ab (dwR fun K hK => ?_)
  repeat refine evF ?_
  refine aa (hK _ (dwK [2, 5, 7, 8] ?_))
  clear hK K
  refine ae ?_
  refine ax (X := List Int × List Nat × List Nat) (fun x => BfsI N v x.1 x.2.1 x.2.2) (fun x => [(8, .c (.p (.int .i64 x.2.1.length)))]) (fun x => [((5, 0), ⟨none, [.sl true 3 1 (x.1.map iC)]⟩), ((7, 0), ⟨none, [.sl true 3 1 ((zI (x.2.1 ++ x.2.2)).map iC)]⟩)]) (fun x => N.ends.length - x.2.1.length) ((List.replicate N.ends.length (-1)).set v 0, [], [v]) (BfsI.start hv) (by first | rfl | (simp only [ac, C.at, C.put, List.dropLast, List.isPrefixOf, simprocAttr, Int.natCast_zero] <;> rfl)) ?_
  rintro ⟨out, done, q⟩ hI
  intro E hE
  simp only [ac, C.at, C.put, List.dropLast, List.isPrefixOf, simprocAttr] at hE
  subst hE
  dsimp only at hI ⊢
  have hzl0 : (zI (done ++ q)).length = done.length + q.length := by simp [zI]
  refine ab ?_
  have dfx := And.intro dfx (@hzl0)
  refine ab (dwR fun K hK => ?_)
  repeat refine evF ?_
  have dfk := @hzl0
  refine aa (hK _ (a8 [2, 5, 7, 8, 32] ?_))
  clear hK K
  refine dwI (fun hb => ?_) (fun hb => ?_)
  ·obtain ⟨w, q, rfl⟩ : ∃ w q', q = w :: q' := by
    cases q with
    | nil => simp at hb
    | cons w q => exact ⟨w, q, rfl⟩
   obtain ⟨hw, hw0⟩ := hI.at0
   have hzl : done.length < (zI (done ++ w :: q)).length := by simp [zI]
   have hz1 := Vb done q w
   have hdw := hdg w
   have hnl := ui (N := N) (v := w) (Nat.le_refl (gl N.ends w).length)
   have hll := hI.len_le
   rw [List.length_cons] at hll
   refine ai ?_
   show DW _ _ _ _ _
   refine ab (ae ?_)
   have dfx := And.intro dfx (And.intro @meFromSt12.eq_def @hz1)
   refine ab (gk meFromSt12 (fun j r => match j with | 5 => r = [.own false [.sl true 3 1 ((fy N w (gl N.ends w).length).map iC)]] | _ => True) fun K hK => ?_)
   repeat refine dvF ?_
   have dfx := And.intro dfx (@meFromSt12.eq_def)
   refine dcF rfl ⟨rfl, _, rfl⟩ (by omega) (by first | exact J2) (Hg ⟨false, f.t1, f.o2, f.t2, false, f.t3, false, f.t4⟩ N w hw (by omega)) ?_
   rintro _ rfl
   repeat refine dvF ?_
   have dfx := And.intro dfx (And.intro @meFromSt12.eq_def @hnl)
   repeat refine dvF ?_
   have dfk := @hnl
   refine bt (hK _ (a8 [2, 5, 7, 8, 40, 41, 42] ?_))
   clear hK K
   refine ae ?_
   refine ax (X := List Int × List Nat × Nat) (fun x => BfsJ N v x.1 done w x.2.1 x.2.2 ∧ x.2.2 ≤ (gl N.ends w).length) (fun x => [(42, .c (.p (.int .i64 x.2.2)))]) (fun x => [((5, 0), ⟨none, [.sl true 3 1 (x.1.map iC)]⟩), ((7, 0), ⟨none, [.sl true 3 1 ((zI (done ++ w :: x.2.1)).map iC)]⟩)]) (fun x => (gl N.ends w).length - x.2.2) (out, q, 0) ⟨hI.pop, Nat.zero_le _⟩ (by first | rfl | (simp only [ac, C.at, C.put, List.dropLast, List.isPrefixOf, simprocAttr, Int.natCast_zero] <;> rfl)) ?_
   rintro ⟨o2, q2, i⟩ ⟨hJ, hi⟩
   intro E hE
   simp only [ac, C.at, C.put, List.dropLast, List.isPrefixOf, simprocAttr] at hE
   subst hE
   dsimp only at hJ hi ⊢
   refine ab (dwR fun K hK => ?_)
   repeat refine evF ?_
   refine aa (hK _ (dwK [2, 5, 7, 8, 40, 41, 42, 43] ?_))
   clear hK K
   refine ab (dwI (fun hb => ?_) (fun hb => ?_))
   ·have hil : i < (gl N.ends w).length := by simpa [hnl] using hb
    obtain ⟨hx, -, -, -, hgp⟩ := ff hs hw hil
    have hg1 : gi (fy N w (gl N.ends w).length) i = ((nd N w i : Nat) : Int) := by rw [Ua hil, hgp]
    have hin : i < (fy N w (gl N.ends w).length).length := by omega
    have hol := hJ.base.len
    have hxo : nd N w i < o2.length := by rw [hol]; exact hx
    have hwo : w < o2.length := by rw [hol]; exact hw
    have hb1 := hJ.base.bnd w hw
    have hb2 := hJ.base.low w hw
    have hb3 := hJ.base.len_le
    rw [List.length_cons] at hb3
    have hzq : (zI (done ++ w :: q2)).length = done.length + (q2.length + 1) := by simp [zI]
    have hzd : done.length < (zI (done ++ w :: q2)).length := by omega
    have hz2 := Vb done q2 w
    have happ : zI (done ++ w :: q2) ++ [((nd N w i : Nat) : Int)] = zI (done ++ w :: (q2 ++ [nd N w i])) := by simp [zI]
    refine ai ?_
    show DW _ _ _ _ _
    refine q8 (X := List Int × List Nat) (fun z => BfsJ N v z.1 done w z.2 (i + 1)) (fun z => mkE 68 [(2, .box), (5, .own false 1), (7, .own false 1), (8, .c (.p (.int .i64 (done.length : Int)))), (40, .own false 1), (41, .c (.p (.int .i64 ((gl N.ends w).length : Int)))), (42, .c (.p (.int .i64 i)))] [((2, 0), ⟨some 27, [.sl false f.t1 1 (N.ends.map fun es => [.sl f.o2 f.t2 2 (es.map eC)]), .sl false f.t3 1 (N.ids.map iC), .sl false f.t4 1 (N.inputs.map iC)]⟩), ((5, 0), ⟨none, [.sl true 3 1 (z.1.map iC)]⟩), ((7, 0), ⟨none, [.sl true 3 1 ((zI (done ++ w :: z.2)).map iC)]⟩), ((40, 0), ⟨none, [.sl true 3 1 ((fy N w (gl N.ends w).length).map iC)]⟩)]) ?_ ?_
    ·refine ae ?_
     refine ab (dwR fun K hK => ?_)
     repeat refine evF ?_
     have dfk := @hg1
     refine aa (hK _ (a8 [2, 5, 7, 8, 10, 40, 41, 42] ?_))
     clear hK K
     refine ab (dwR fun K hK => ?_)
     repeat refine evF ?_
     refine aa (hK _ (dwK [2, 5, 7, 8, 10, 40, 41, 42, 50] ?_))
     clear hK K
     refine dwI (fun hb => ?_) (fun hb => ?_)
     ·have h0 : gi o2 (nd N w i) < 0 := by simpa using hb
      have dfx := And.intro dfx (And.intro @hz2 @Int.toNat_natCast)
      refine ab (dwR fun K hK => ?_)
      repeat refine evF ?_
      have dfk := @Al
      refine aa (hK _ (a8 [2, 5, 7, 8, 10, 40, 41, 42] ?_))
      clear hK K
      refine dwR fun K hK => ?_
      repeat refine evF ?_
      refine aa (hK _ ?_)
      clear hK K
      show ∃ x, _ ∧ Weak _ _
      refine ⟨(o2.set (nd N w i) (gi o2 w + 1), q2 ++ [nd N w i]), ?_, (cp _ [2, 5, 7, 8, 40, 41, 42]).trans (Weak.of_eq (by simp only [ac, C.at, C.put, List.dropLast, List.isPrefixOf, simprocAttr , fo, happ] <;> exact rfl))⟩
      exact hJ.push hs hil h0
     ·have h0 : 0 ≤ gi o2 (nd N w i) := by simpa using hb
      refine ai ?_
      show ∃ x, _ ∧ Weak _ _
      refine ⟨(o2, q2), ?_, (cp _ [2, 5, 7, 8, 40, 41, 42]).trans (Weak.of_eq (by simp only [ac, C.at, C.put, List.dropLast, List.isPrefixOf, simprocAttr] <;> exact rfl))⟩
      exact hJ.skip hs hil h0
    ·rintro ⟨o3, q3⟩ hJ3
     dsimp only at hJ3 ⊢
     refine dwR fun K hK => ?_
     repeat refine evF ?_
     have dfk := @cd
     refine aa (hK _ ?_)
     clear hK K
     show ∃ x, _ ∧ _ ∧ Weak _ _
     refine ⟨(o3, q3, i + 1), ?_, ?_, ay [2, 5, 7, 8, 40, 41, 42]⟩
     ·exact ⟨hJ3, hil⟩
     ·dsimp only; omega
   ·have hil : i = (gl N.ends w).length := by
     have : ¬ (i : Int) < ((gl N.ends w).length : Int) := by simpa [hnl] using hb
     omega
    subst hil
    have hD := hJ.done
    have happ : done ++ w :: q2 = (done ++ [w]) ++ q2 := by simp
    have hdl : ((done.length : Int) + 1) = ((done ++ [w]).length : Int) := by simp
    refine ap ?_
    refine bc [2, 5, 7, 8] (by simp only [ac, C.at, C.put, List.dropLast, List.isPrefixOf, simprocAttr]; exact rfl) ?_
    refine dwR fun K hK => ?_
    repeat refine evF ?_
    have dfk := And.intro @happ @hdl
    refine aa (hK _ ?_)
    clear hK K
    show ∃ x, _ ∧ _ ∧ Weak _ _
    refine ⟨(o2, done ++ [w], q2), ?_, ?_, ay [2, 5, 7, 8]⟩
    ·exact hD
    ·have := hD.len_le
     dsimp only
     rw [List.length_append] at this ⊢
     simp only [List.length_cons, List.length_nil] at this ⊢
     omega
  ·have hq : q = [] := by
    cases q with
    | nil => rfl
    | cons a q => simp at hb; omega
   subst hq
   have hdi := hI.dist.eq hs
   refine ap ?_
   refine bc [5] (by simp only [ac, C.at, C.put, List.dropLast, List.isPrefixOf, simprocAttr]; exact rfl) ?_
   refine ab (dwR fun K hK => ?_)
   repeat refine evF ?_
   refine aa (hK _ (dwK [4] ?_))
   clear hK K
   exact ak (aq Tryz.results61 (.one (.own _ _ _ _ rfl rfl (own1 (cq _ _)))) (by decide) (by rw [hdi]))
end
section
open Go Go.RowKit
section
variable {N : Net} {m : Nat} {B : List (List (Int × Int))}
noncomputable def lx (N : Net) (m : Nat) (B : List (List (Int × Int))) (v : Nat) : List (List (Int × Int)) := (List.range N.ends.length).map fun u => if u < v then ik N m u else gl B u
theorem mm (v : Nat) : (lx N m B v).length = N.ends.length := by simp [lx]
theorem T1 {u v : Nat} (hu : u < N.ends.length) : gl (lx N m B v) u = if u < v then ik N m u else gl B u := by
 rw [ge (by rw [mm]; exact hu)]
 simp [lx]
theorem Df (hB : B.length = N.ends.length) : lx N m B 0 = B := by
 refine List.ext_getElem (by rw [mm, hB]) fun i h1 h2 => ?_
 simp [lx, ge h2]
theorem Gz : lx N m B N.ends.length = (dq N m).ends := by
 unfold lx dq
 refine List.map_congr_left fun u hu => ?_
 rw [if_pos (List.mem_range.1 hu)]
theorem Dg {v : Nat} (hv : v < N.ends.length) : (lx N m B v).set v (ik N m v) = lx N m B (v + 1) := by
 refine List.ext_getElem (by rw [List.length_set, mm, mm]) fun i h1 h2 => ?_
 rw [List.getElem_set]
 simp only [lx, List.getElem_map, List.getElem_range]
 by_cases h : v = i
 ·subst h; rw [if_pos rfl, if_pos (by omega)]
 ·rw [if_neg h]
  by_cases h3 : i < v
  ·rw [if_pos h3, if_pos (by omega)]
  ·rw [if_neg h3, if_neg (by omega)]
theorem jk (v : Nat) : (ik N m v).length = (az N m v).length := by simp [ik]
theorem Ex {v i : Nat} (hi : i < (az N m v).length) : gp (ik N m v) i = (gi (az N m v) i, sx (az N m (gi (az N m v) i).toNat) v) := by
 rw [ib (by rw [jk]; exact hi), b6 hi]
 simp [ik]
theorem zq {es : List (Int × Int)} {i : Nat} (h : i < es.length) : es.take (i + 1) = es.take i ++ [((gp es i).1, (gp es i).2)] := by
 rw [List.take_add_one, List.getElem?_eq_getElem h, ib h]; rfl
theorem L6 (hs : Sym N.ends) {v : Nat} (hv : v < N.ends.length) {i : Nat} (hi : i < (az N m v).length) : ∃ w q : Nat, gi (az N m v) i = w ∧ w < N.ends.length ∧ sx (az N m w) v = q ∧ q < (az N m w).length ∧ gi (az N m w) q = v ∧ ∀ j, j < q → gi (az N m w) j ≠ v := by
 have hmem : gi (az N m v) i ∈ az N m v := by rw [b6 hi]; exact List.getElem_mem hi
 obtain ⟨w, he, hw, -⟩ := fj.1 hmem
 rw [he] at hmem
 have hv2 := Ax hs hv hmem
 obtain ⟨q, hq⟩ := Int.eq_ofNat_of_zero_le (po.2 hv2)
 unfold sx at hq
 rcases nz (az N m w).length fun j => gi (az N m w) j == v with ⟨h1, -⟩ | ⟨q', h1, h2, h3, h4⟩
 ·rw [h1] at hq; omega
 ·have : q' = q := by rw [h1] at hq; omega
  subst this
  exact ⟨w, q', he, hw, h1, h2, by simpa using h3, fun j hj => by simpa using h4 j hj⟩
end
def mePowerSt1 : Nat → Stat
 | 0 => ⟨[2], [(2, 1)], [], [16], [], []⟩
 | 1 => ⟨[16], [(2, 1)], [], [17], [], []⟩
 | 2 => ⟨[17], [], [], [18], [], []⟩
 | 3 => ⟨[18], [], [], [19], [], []⟩
 | 4 => ⟨[2], [(2, 1)], [], [20], [], []⟩
 | 5 => ⟨[20], [(2, 1)], [], [21], [], []⟩
 | 6 => ⟨[21], [], [], [22], [], []⟩
 | 7 => ⟨[2], [(2, 1)], [], [23], [], []⟩
 | 8 => ⟨[23], [(2, 1)], [], [24], [], []⟩
 | 9 => ⟨[24], [], [], [25], [], []⟩
 | 10 => ⟨[19, 22, 25], [], [19, 22, 25], [26], [(19, 1), (22, 1), (25, 1), (26, 1)], []⟩
 | 11 => ⟨[], [], [], [5], [], []⟩
 | 12 => ⟨[5, 26], [(5, 1)], [26], [], [(5, 1), (26, 1)], []⟩
 | _ => ⟨[], [], [], [], [], []⟩
def mePowerSt24 : Nat → Stat
 | 0 => ⟨[5], [(5, 1)], [], [79], [], []⟩
 | 1 => ⟨[79], [(5, 1)], [], [80], [], []⟩
 | 2 => ⟨[11], [], [], [81], [], []⟩
 | 3 => ⟨[5], [(5, 1)], [], [82], [], []⟩
 | 4 => ⟨[82], [(5, 1)], [], [83], [], []⟩
 | 5 => ⟨[11], [], [], [84], [], []⟩
 | 6 => ⟨[83, 84], [(5, 1)], [], [85], [], []⟩
 | 7 => ⟨[85], [(5, 2)], [], [86], [], []⟩
 | 8 => ⟨[14], [], [], [87], [], []⟩
 | 9 => ⟨[15], [], [], [88], [], []⟩
 | 10 => ⟨[87, 88], [], [], [89], [], []⟩
 | 11 => ⟨[89], [], [], [90], [], []⟩
 | 12 => ⟨[86, 90], [(5, 2), (90, 1)], [5, 90], [91], [(5, 2)], []⟩
 | 13 => ⟨[80, 81], [(5, 1)], [], [92], [], []⟩
 | 14 => ⟨[92, 91], [(5, 2)], [91], [], [(5, 2), (91, 1)], []⟩
 | _ => ⟨[], [], [], [], [], []⟩
def zBDmp1 := PLift.up (And.intro an (And.intro bb (And.intro cl (And.intro bm (And.intro bj (And.intro @if_pos.{1} (And.intro @b7 (And.intro bn (And.intro @b4 (And.intro @b0 (And.intro @br (And.intro @a7 (And.intro @a6 (And.intro ew (And.intro @dm @trivial)))))))))))))))
theorem Xs : type_of% zBDmp1.down := zBDmp1.down
set_option maxRecDepth 8000 in
set_option maxHeartbeats 0 in
theorem Of (f : NF) (N : Net) (m : Nat) (hg : bz N = true) (hi2 : N.inputs.length ≤ 1000000) (hi3 : N.ids.length ≤ 1000000) (hm : m ≤ 40) : DCalls Tryz.prog 82 [.agg (bv f N), .c (.p (.int .i64 m))] (fun r => r = [.own true (netO (dq N m))]) := by -- params impl.Network, int
 obtain ⟨hs, hn, hids, hdg⟩ := dh hg
 refine ao Tryz.func82 rfl (by rw [Tryz.ntmps82]; simp) fun w0 => ?_
 rw [Tryz.ntmps82]
 have dfx := Xs
 simp only [ce, be, Arg.av, bv, cm, ints, ends]
 refine ab (dwR fun K hK => ?_)
 repeat refine evF ?_
 refine aa (hK _ (dwK [1, 2, 4] ?_))
 clear hK K
 have dfx := And.intro dfx (And.intro @mePowerSt1.eq_def (And.intro @Mv @Int.toNat_natCast))
 refine ab (gk mePowerSt1 (fun j r => match j with | 6 => r = [.own false [.sl true 3 1 (N.ids.map iC)]] | 9 => r = [.own false [.sl true 3 1 (N.inputs.map iC)]] | _ => True) fun K hK => ?_)
 repeat refine dvF ?_
 have dfx := And.intro dfx (And.intro @mePowerSt1.eq_def @Mv)
 refine dcF rfl ⟨rfl, _, rfl⟩ (by omega) (by first | exact Rq) (Ma false f.t3 N.ids hi3) ?_
 rintro _ rfl
 repeat refine dvF ?_
 have dfx := And.intro dfx (And.intro @mePowerSt1.eq_def @Mv)
 refine dcF rfl ⟨rfl, _, rfl⟩ (by omega) (by first | exact Rq) (Ma false f.t4 N.inputs hi2) ?_
 rintro _ rfl
 repeat refine dvF ?_
 have dfk := @Mv
 refine bt (hK _ (a8 [1, 2, 4, 5] ?_))
 clear hK K
 refine Mj 5 0 35 2 (by decide) rfl rfl [1, 2, 4, 5] (by simp only [ac, C.at, C.put, List.dropLast, List.isPrefixOf, simprocAttr, List.modify_zero_cons, List.modify_succ_cons, zes]; exact rfl) ?_
 refine ab (dwR fun K hK => ?_)
 repeat refine evF ?_
 refine aa (hK _ (dwK [1, 2, 4, 5, 6] ?_))
 clear hK K
 refine ab ?_
 refine ab (dwR fun K hK => ?_)
 repeat refine evF ?_
 refine aa (hK _ (dwK [1, 2, 4, 5, 6, 29, 30] ?_))
 clear hK K
 refine ae ?_
 refine jw 6 25 1 (by decide) (by simp only [ac, C.at, C.put, List.dropLast, List.isPrefixOf, simprocAttr]) [1, 2, 4, 5, 6, 29, 30] (by simp only [ac, C.at, C.put, List.dropLast, List.isPrefixOf, simprocAttr]; exact rfl) ?_
 refine ax (X := Nat) (fun k => k ≤ N.ends.length) (fun k => [(30, .c (.p (.int .i64 k)))]) (fun k => [((6, 0), ⟨none, [.sl true 25 1 ((nh k (az N m)).map (lsC 3))]⟩)]) (fun k => N.ends.length - k) 0 (Nat.zero_le _) (by first | rfl | (simp only [ac, C.at, C.put, List.dropLast, List.isPrefixOf, simprocAttr, Int.natCast_zero] <;> rfl)) ?_
 rintro k hk
 intro E hE
 simp only [ac, C.at, C.put, List.dropLast, List.isPrefixOf, simprocAttr] at hE
 subst hE
 have htl := kg k (az N m)
 refine ab (dwR fun K hK => ?_)
 repeat refine evF ?_
 refine aa (hK _ (dwK [1, 2, 4, 5, 6, 29, 30, 31] ?_))
 clear hK K
 refine ab (dwI (fun hb => ?_) (fun hb => ?_))
 ·have hk1 : k < N.ends.length := by simpa using hb
  have hdl : (bo N k).length = N.ends.length := (di hs hk1).len
  have hns := C4 k (az N m)
  refine ai ?_
  show DW _ _ _ _ _
  refine ab (ae ?_)
  refine ab (dwR fun K hK => ?_)
  repeat refine evF ?_
  refine aa (hK _ (dwK [1, 2, 4, 5, 6, 7, 29, 30] ?_))
  clear hK K
  refine ab (dwR fun K hK => ?_)
  repeat refine evF ?_
  refine aa (hK _ (dwK [1, 2, 4, 5, 6, 7, 8, 29, 30] ?_))
  clear hK K
  refine ab ?_
  have dfx := And.intro dfx (@hdl)
  refine ab (dwR fun K hK => ?_)
  repeat refine evF ?_
  have dfx := And.intro dfx (@hdl)
  refine clF rfl ⟨rfl, _, rfl⟩ (by omega) (by first | exact Zg) (Rd ⟨false, f.t1, f.o2, f.t2, false, f.t3, false, f.t4⟩ N k hs hk1 (by omega) hdg) ?_
  rintro _ rfl
  repeat refine evF ?_
  have dfk := @hdl
  refine aa (hK _ (a8 [1, 2, 4, 5, 6, 8, 29, 30, 35, 36, 37] ?_))
  clear hK K
  refine ae ?_
  refine jw 8 3 1 (by decide) (by simp only [ac, C.at, C.put, List.dropLast, List.isPrefixOf, simprocAttr]) [1, 2, 4, 5, 6, 8, 29, 30, 35, 36, 37] (by simp only [ac, C.at, C.put, List.dropLast, List.isPrefixOf, simprocAttr]; exact rfl) ?_
  refine ax (X := Nat) (fun u => u ≤ N.ends.length) (fun u => [(37, .c (.p (.int .i64 u)))]) (fun u => [((8, 0), ⟨none, [.sl true 3 1 ((eb (fun w => inB (gi (bo N k) w) 1 m) u).map iC)]⟩)]) (fun u => N.ends.length - u) 0 (Nat.zero_le _) (by first | rfl | (simp only [ac, C.at, C.put, List.dropLast, List.isPrefixOf, simprocAttr, Int.natCast_zero] <;> rfl)) ?_
  rintro u hu
  intro E hE
  simp only [ac, C.at, C.put, List.dropLast, List.isPrefixOf, simprocAttr] at hE
  subst hE
  have hul := ug (fun w => inB (gi (bo N k) w) 1 m) u
  refine ab (dwR fun K hK => ?_)
  repeat refine evF ?_
  refine aa (hK _ (dwK [1, 2, 4, 5, 6, 8, 29, 30, 35, 36, 37, 38] ?_))
  clear hK K
  refine ab (dwI (fun hb => ?_) (fun hb => ?_))
  ·have hu1 : u < N.ends.length := by simpa using hb
   refine ai ?_
   show DW _ _ _ _ _
   refine ab (ae ?_)
   have dfx := And.intro dfx (@Int.toNat_natCast)
   refine ab (dwR fun K hK => ?_)
   repeat refine evF ?_
   refine aa (hK _ (dwK [1, 2, 4, 5, 6, 8, 9, 10, 29, 30, 35, 36, 37] ?_))
   clear hK K
   refine ab (dwR fun K hK => ?_)
   repeat refine evF ?_
   refine clF rfl ⟨rfl, _, rfl⟩ (by omega) (by first | exact Rf) (Rv (gi (bo N k) u) 1 m) ?_
   rintro _ rfl
   repeat refine evF ?_
   refine aa (hK _ (dwK [1, 2, 4, 5, 6, 8, 9, 29, 30, 35, 36, 37, 44] ?_))
   clear hK K
   refine dwI (fun hb => ?_) (fun hb => ?_)
   ·have hsn : eb (fun w => inB (gi (bo N k) w) 1 m) (u + 1) = eb (fun w => inB (gi (bo N k) w) 1 m) u ++ [(u : Int)] := qr (by simpa using hb)
    refine dwR fun K hK => ?_
    repeat refine evF ?_
    have dfk := @fo
    refine aa (hK _ (a8 [1, 2, 4, 5, 6, 8, 29, 30, 35, 36, 37] ?_))
    clear hK K
    refine dwR fun K hK => ?_
    repeat refine evF ?_
    have dfk := And.intro @cd @hsn
    refine aa (hK _ ?_)
    clear hK K
    show ∃ x, _ ∧ _ ∧ Weak _ _
    refine ⟨u + 1, ?_, ?_, ay [1, 2, 4, 5, 6, 8, 29, 30, 35, 36, 37]⟩
    ·omega
    ·omega
   ·have hsn : eb (fun w => inB (gi (bo N k) w) 1 m) (u + 1) = eb (fun w => inB (gi (bo N k) w) 1 m) u := uf (by simpa using hb)
    refine ai ?_
    show DW _ _ _ _ _
    refine dwR fun K hK => ?_
    repeat refine evF ?_
    have dfk := And.intro @cd @hsn
    refine aa (hK _ ?_)
    clear hK K
    show ∃ x, _ ∧ _ ∧ Weak _ _
    refine ⟨u + 1, ?_, ?_, ay [1, 2, 4, 5, 6, 8, 29, 30, 35, 36, 37]⟩
    ·omega
    ·omega
  ·have hu2 : u = N.ends.length := by
    have : ¬ u < N.ends.length := by simpa using hb
    omega
   have hfin : eb (fun w => inB (gi (bo N k) w) 1 m) u = az N m k := by rw [hu2]; rfl
   rw [hfin]
   refine ap ?_
   refine bc [1, 2, 4, 5, 6, 8, 29, 30] (by simp only [ac, C.at, C.put, List.dropLast, List.isPrefixOf, simprocAttr]; exact rfl) ?_
   refine dwR fun K hK => ?_
   repeat refine evF ?_
   have dfk := And.intro @j5 @Lo
   refine aa (hK _ (a8 [1, 2, 4, 5, 6, 29, 30] ?_))
   clear hK K
   refine dwR fun K hK => ?_
   repeat refine evF ?_
   have dfk := And.intro @cd @hns
   refine aa (hK _ ?_)
   clear hK K
   show ∃ x, _ ∧ _ ∧ Weak _ _
   refine ⟨k + 1, ?_, ?_, ay [1, 2, 4, 5, 6, 29, 30]⟩
   ·omega
   ·omega
 ·have hk2 : k = N.ends.length := by
   have : ¬ k < N.ends.length := by simpa using hb
   omega
  subst hk2
  have hB : (List.replicate N.ends.length ([] : List (Int × Int))).length = N.ends.length := by simp
  have hz : List.replicate N.ends.length ([] : List (Int × Int)) = lx N m (List.replicate N.ends.length []) 0 := (Df hB).symm
  refine ap ?_
  refine bc [4, 5, 6] (by simp only [ac, C.at, C.put, List.dropLast, List.isPrefixOf, simprocAttr]; exact rfl) ?_
  refine Bo 6 [4, 5, 6] rfl rfl (by simp only [ac, C.at, C.put, List.dropLast, List.isPrefixOf, simprocAttr, Gx, Dd, t8, t7, ml]; exact rfl) ?_
  refine ab ?_
  have dfx := And.intro dfx (@htl)
  refine ab (dwR fun K hK => ?_)
  repeat refine evF ?_
  have dfk := @htl
  refine aa (hK _ (a8 [4, 5, 6, 55, 56, 57] ?_))
  clear hK K
  refine ae ?_
  refine ax (X := Nat) (fun v => v ≤ N.ends.length) (fun v => [(57, .c (.p (.int .i64 v)))]) (fun v => [((5, 0), ⟨some 27, [.sl true 82 1 ((lx N m (List.replicate N.ends.length []) v).map (esC 35)), .sl true 3 1 (N.ids.map iC), .sl true 3 1 (N.inputs.map iC)]⟩)]) (fun v => N.ends.length - v) 0 (Nat.zero_le _) (by first | rfl | (simp only [ac, C.at, C.put, List.dropLast, List.isPrefixOf, simprocAttr, Int.natCast_zero, ← hz] <;> rfl)) ?_
  rintro v hv
  intro E hE
  simp only [ac, C.at, C.put, List.dropLast, List.isPrefixOf, simprocAttr] at hE
  subst hE
  obtain ⟨Q0, hQ0⟩ : ∃ Q0, Q0 = lx N m (List.replicate N.ends.length []) v := ⟨_, rfl⟩
  have hql : Q0.length = N.ends.length := by rw [hQ0, mm]
  refine ab (dwR fun K hK => ?_)
  repeat refine evF ?_
  refine aa (hK _ (dwK [4, 5, 6, 55, 56, 57, 58] ?_))
  clear hK K
  refine ab (dwI (fun hb => ?_) (fun hb => ?_))
  ·have hv1 : v < N.ends.length := by simpa using hb
   have hlg : lg (nh N.ends.length (az N m)) v = az N m v := sn hv1
   have hns : lx N m (List.replicate N.ends.length []) (v + 1) = Q0.set v (ik N m v) := by rw [hQ0, Dg hv1]
   have hnkl := ja (N := N) (k := m) v
   have h0 : Q0 = Q0.set v ((ik N m v).take 0) := by
    rw [List.take_zero]
    have h1 : gl Q0 v = [] := by rw [hQ0, T1 hv1, if_neg (by omega)]; simp [gl, hv1]
    refine List.ext_getElem (by simp) fun i g1 g2 => ?_
    rw [List.getElem_set]
    split
    ·rename_i he; subst he; rw [← ge g1, h1]
    ·rfl
   rw [← hQ0]
   refine ai ?_
   show DW _ _ _ _ _
   refine ab (ae ?_)
   have dfx := And.intro dfx (And.intro @hlg @Int.toNat_natCast)
   refine ab (dwR fun K hK => ?_)
   repeat refine evF ?_
   have dfk := @hlg
   refine aa (hK _ (a8 [4, 5, 6, 11, 12, 55, 56, 57] ?_))
   clear hK K
   refine ab (dwR fun K hK => ?_)
   repeat refine evF ?_
   refine aa (hK _ (dwK [4, 5, 6, 11, 55, 56, 57, 62, 63, 64] ?_))
   clear hK K
   refine ae ?_
   refine ax (X := Nat) (fun i => i ≤ (az N m v).length) (fun i => [(64, .c (.p (.int .i64 i)))]) (fun i => [((5, 0), ⟨some 27, [.sl true 82 1 ((Q0.set v ((ik N m v).take i)).map (esC 35)), .sl true 3 1 (N.ids.map iC), .sl true 3 1 (N.inputs.map iC)]⟩)]) (fun i => (az N m v).length - i) 0 (Nat.zero_le _) (by first | rfl | (simp only [ac, C.at, C.put, List.dropLast, List.isPrefixOf, simprocAttr, Int.natCast_zero, ← h0] <;> rfl)) ?_
   rintro i hi
   intro E hE
   simp only [ac, C.at, C.put, List.dropLast, List.isPrefixOf, simprocAttr] at hE
   subst hE
   obtain ⟨Q1, hQ1⟩ : ∃ Q1, Q1 = Q0.set v ((ik N m v).take i) := ⟨_, rfl⟩
   have hql1 : Q1.length = N.ends.length := by rw [hQ1, List.length_set, hql]
   have hglv : gl Q1 v = (ik N m v).take i := by rw [hQ1, ge (by rw [List.length_set]; omega)]; simp
   rw [← hQ1]
   refine ab (dwR fun K hK => ?_)
   repeat refine evF ?_
   refine aa (hK _ (dwK [4, 5, 6, 11, 55, 56, 57, 62, 63, 64, 65] ?_))
   clear hK K
   refine ab (dwI (fun hb => ?_) (fun hb => ?_))
   ·have hi1 : i < (az N m v).length := by simpa using hb
    obtain ⟨w, q, hw, hwl, hq, hql2, hqv, hqn⟩ := L6 hs hv1 hi1
    have hlgw : lg (nh N.ends.length (az N m)) w = az N m w := sn hwl
    have hpg : gp (ik N m v) i = ((w : Int), (q : Int)) := by rw [Ex hi1, hw, Int.toNat_natCast, hq]
    have hst : Q1.set v ((ik N m v).take i ++ [((w : Int), (q : Int))]) = Q0.set v ((ik N m v).take (i + 1)) := by
     rw [hQ1, List.set_set, zq (by rw [jk]; exact hi1), hpg]
    have htk : ((ik N m v).take i).length ≤ 1000 := by rw [List.length_take]; omega
    have hnkw := ja (N := N) (k := m) w
    refine ai ?_
    show DW _ _ _ _ _
    refine ab (ae ?_)
    have dfx := And.intro dfx (@hw)
    refine ab (dwR fun K hK => ?_)
    repeat refine evF ?_
    have dfk := @hw
    refine aa (hK _ (a8 [4, 5, 6, 11, 14, 55, 56, 57, 62, 63, 64] ?_))
    clear hK K
    refine ab (dwR fun K hK => ?_)
    repeat refine evF ?_
    refine aa (hK _ (dwK [4, 5, 6, 11, 14, 15, 55, 56, 57, 62, 63, 64] ?_))
    clear hK K
    refine ab (ae ?_)
    refine ax (X := Nat) (fun j => j ≤ q) (fun j => [(15, .c (.p (.int .i64 j)))]) (fun j => []) (fun j => q - j) 0 (Nat.zero_le _) (by first | rfl | (simp only [ac, C.at, C.put, List.dropLast, List.isPrefixOf, simprocAttr, Int.natCast_zero] <;> rfl)) ?_
    rintro j hj
    intro E hE
    simp only [ac, C.at, C.put, List.dropLast, List.isPrefixOf, simprocAttr] at hE
    subst hE
    refine ab ?_
    have dfx := And.intro dfx (And.intro @hlgw @Int.toNat_natCast)
    refine ab (dwR fun K hK => ?_)
    repeat refine evF ?_
    have dfk := @hlgw
    refine aa (hK _ (a8 [4, 5, 6, 11, 14, 15, 55, 56, 57, 62, 63, 64, 76] ?_))
    clear hK K
    refine dwI (fun hb => ?_) (fun hb => ?_)
    ·have hjq : j < q := by
      have h1 : gi (az N m w) j ≠ v := by simpa using hb
      rcases Nat.lt_or_ge j q with h | h
      ·exact h
      ·exact absurd hqv (by rw [show q = j by omega]; exact h1)
     refine ai ?_
     show DW _ _ _ _ _
     refine ae ?_
     refine dwR fun K hK => ?_
     repeat refine evF ?_
     have dfk := @cd
     refine aa (hK _ ?_)
     clear hK K
     show ∃ x, _ ∧ _ ∧ Weak _ _
     refine ⟨j + 1, ?_, ?_, ay [4, 5, 6, 11, 14, 15, 55, 56, 57, 62, 63, 64]⟩
     ·omega
     ·omega
    ·have hjq : j = q := by
      have h1 : gi (az N m w) j = v := by simpa using hb
      rcases Nat.lt_or_ge j q with h | h
      ·exact absurd h1 (hqn j h)
      ·omega
     subst hjq
     refine ap ?_
     refine bc [4, 5, 6, 11, 14, 15, 55, 56, 57, 62, 63, 64] (by simp only [ac, C.at, C.put, List.dropLast, List.isPrefixOf, simprocAttr]; exact rfl) ?_
     have dfx := And.intro dfx (And.intro @mePowerSt24.eq_def (And.intro @Int.toNat_natCast (And.intro @dw (And.intro @ij (And.intro @hglv @List.length_modify.{0})))))
     refine gk mePowerSt24 (fun j r => match j with | _ => True) fun K hK => ?_
     repeat refine dvF ?_
     have dfk := And.intro @ni (And.intro @q7 @hst)
     refine bt (hK _ (a8 [4, 5, 6, 11, 55, 56, 57, 62, 63, 64] ?_))
     clear hK K
     refine dwR fun K hK => ?_
     repeat refine evF ?_
     have dfk := @cd
     refine aa (hK _ ?_)
     clear hK K
     show ∃ x, _ ∧ _ ∧ Weak _ _
     refine ⟨i + 1, ?_, ?_, ay [4, 5, 6, 11, 55, 56, 57, 62, 63, 64]⟩
     ·omega
     ·omega
   ·have hi2 : i = (az N m v).length := by
     have : ¬ i < (az N m v).length := by simpa using hb
     omega
    have hfin : Q1 = lx N m (List.replicate N.ends.length []) (v + 1) := by rw [hns, hQ1, hi2, ← jk, List.take_length]
    rw [hfin]
    refine ap ?_
    refine bc [4, 5, 6, 55, 56, 57] (by simp only [ac, C.at, C.put, List.dropLast, List.isPrefixOf, simprocAttr]; exact rfl) ?_
    refine dwR fun K hK => ?_
    repeat refine evF ?_
    have dfk := @cd
    refine aa (hK _ ?_)
    clear hK K
    show ∃ x, _ ∧ _ ∧ Weak _ _
    refine ⟨v + 1, ?_, ?_, ay [4, 5, 6, 55, 56, 57]⟩
    ·omega
    ·omega
  ·have hv2 : v = N.ends.length := by
    have : ¬ v < N.ends.length := by simpa using hb
    omega
   rw [hv2, Gz]
   refine ap ?_
   refine bc [4, 5] (by simp only [ac, C.at, C.put, List.dropLast, List.isPrefixOf, simprocAttr]; exact rfl) ?_
   refine ab (dwR fun K hK => ?_)
   repeat refine evF ?_
   refine aa (hK _ (dwK [4] ?_))
   clear hK K
   exact ak (aq Tryz.results82 (.one (.cell 4 _ _ _ _ rfl rfl an rfl rfl (am _))) (by decide) rfl)
end
end Go.Proofs.YtdiiggpohcjppaaGreat
