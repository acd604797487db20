/- impl.network, spec.neIf, impl.copyNetwork, laws.qNetwork over data -/
import Derived.Test.YtdiiggpohcjppaaGreatCJn29
import Derived.Test.YtdiiggpohcjppaaGreatCJn46
import Derived.Test.YtdiiggpohcjppaaGreatCJn31
import Derived.Test.YtdiiggpohcjppaaGreatCJn26
import Derived.Test.YtdiiggpohcjppaaGreatCGt3
set_option linter.unusedSimpArgs false
set_option linter.unusedVariables false
namespace Go.Proofs.YtdiiggpohcjppaaGreat
set_option maxHeartbeats 0
set_option maxRecDepth 8000
open Go Go.RowKit
def net0 : Net := ⟨[], [], []⟩
noncomputable def okN (P : Net) : Net := if bz P = true then P else net0
theorem Co (f : NF) (N : Net) (hf : Ya N) : DCalls Tryz.prog 77 [.agg (bv f N)] (fun r => r = [.own true (netO N)]) := xk fun w vs h1 h2 => by
 obtain ⟨u, rfl, g1⟩ := Bx h1 h2
 exact yr u N w (Sw g1) hf
def zBDpq1 := PLift.up (And.intro an (And.intro bb (And.intro cl (And.intro bm (And.intro bj (And.intro @if_pos.{1} (And.intro @b7 (And.intro bn (And.intro @b4 (And.intro @b0 (And.intro @br (And.intro @a7 (And.intro @a6 @trivial)))))))))))))
theorem Kl : type_of% zBDpq1.down := zBDpq1.down
theorem N0 (P : Net) (hi : P.ids.length ≤ 2097152) : tj Tryz.prog 79 true (netO P) [] (fun r => r = [.own true (netO (okN P)), .c (.p (.bool (bz P)))]) := by
 refine D0 Tryz.func79 rfl (by rw [Tryz.ntmps79]; simp) fun w0 => ?_
 rw [Tryz.ntmps79]
 have dfx := Kl
 simp only [yb, be, Arg.av, netO, List.length_cons, List.length_nil, Nat.reduceAdd]
 refine ab (dwR fun K hK => ?_)
 repeat refine evF ?_
 refine aa (hK _ (dwK [1, 2] ?_))
 clear hK K
 refine ab ?_
 refine ab (dwR fun K hK => ?_)
 repeat refine evF ?_
 refine clF rfl ⟨rfl, _, rfl⟩ (by omega) (by first | exact pg) (f6 NFo P hi) ?_
 rintro _ rfl
 repeat refine evF ?_
 obtain hg | hg := Bool.eq_false_or_eq_true (bz P)
 ·have dfx := And.intro dfx (@hg)
  repeat refine evF ?_
  have dfk := @hg
  refine aa (hK _ (a8 [1, 2, 6] ?_))
  clear hK K
  refine dwI (fun hb => ?_) (fun hb => ?_)
  ·cases hb
  ·refine ai ?_
   show DW _ _ _ _ _
   refine ab (dwR fun K hK => ?_)
   repeat refine evF ?_
   refine aa (hK _ (dwK [2, 3] ?_))
   clear hK K
   exact ak (aq Tryz.results79 (.two (.cell 2 _ _ _ _ rfl rfl an rfl rfl (am _)) (.plain _ _ rfl)) (by decide) (by rw [okN, if_pos hg, hg]))
 ·have dfx := And.intro dfx (@hg)
  repeat refine evF ?_
  have dfk := @hg
  refine aa (hK _ (a8 [1, 2, 6] ?_))
  clear hK K
  refine dwI (fun hb => ?_) (fun hb => ?_)
  ·refine ab (dwR fun K hK => ?_)
   repeat refine evF ?_
   refine aa (hK _ (dwK [2, 3] ?_))
   clear hK K
   refine cw 2 0 82 1 (by decide) rfl rfl [2, 3] (by simp only [ac, C.at, C.put, List.dropLast, List.isPrefixOf, simprocAttr, List.modify_zero_cons, List.modify_succ_cons]; exact rfl) ?_
   refine cw 2 1 3 1 (by decide) rfl rfl [2, 3] (by simp only [ac, C.at, C.put, List.dropLast, List.isPrefixOf, simprocAttr, List.modify_zero_cons, List.modify_succ_cons]; exact rfl) ?_
   refine cw 2 2 3 1 (by decide) rfl rfl [2, 3] (by simp only [ac, C.at, C.put, List.dropLast, List.isPrefixOf, simprocAttr, List.modify_zero_cons, List.modify_succ_cons]; exact rfl) ?_
   exact ak (aq Tryz.results79 (.two (.cell 2 _ _ _ _ rfl rfl an rfl rfl (am net0)) (.plain _ _ rfl)) (by decide) (by rw [okN, if_neg (by rw [hg]; decide), hg]; rfl))
  ·cases hb
theorem Ww (P : Net) : tj Tryz.prog 81 true (netO P) [] (fun r => r = [.own true (netO (okN P)), .c (.p (.bool (bz P)))]) := by
 refine D0 Tryz.func81 rfl (by rw [Tryz.ntmps81]; simp) fun w0 => ?_
 rw [Tryz.ntmps81]
 have dfx := Kl
 simp only [yb, be, Arg.av, netO, List.length_cons, List.length_nil, Nat.reduceAdd]
 refine ab (dwR fun K hK => ?_)
 repeat refine evF ?_
 refine aa (hK _ (dwK [1, 2] ?_))
 clear hK K
 refine ab ?_
 refine ab (dwR fun K hK => ?_)
 repeat refine evF ?_
 refine clF rfl ⟨rfl, _, rfl⟩ (by omega) (by first | exact Rg) (Hh NFo P) ?_
 rintro _ rfl
 repeat refine evF ?_
 obtain hg | hg := Bool.eq_false_or_eq_true (bz P)
 ·have dfx := And.intro dfx (@hg)
  repeat refine evF ?_
  have dfk := @hg
  refine aa (hK _ (a8 [1, 2, 6] ?_))
  clear hK K
  refine dwI (fun hb => ?_) (fun hb => ?_)
  ·cases hb
  ·refine ai ?_
   show DW _ _ _ _ _
   refine ab (dwR fun K hK => ?_)
   repeat refine evF ?_
   refine aa (hK _ (dwK [2, 3] ?_))
   clear hK K
   exact ak (aq Tryz.results81 (.two (.cell 2 _ _ _ _ rfl rfl an rfl rfl (am _)) (.plain _ _ rfl)) (by decide) (by rw [okN, if_pos hg, hg]))
 ·have dfx := And.intro dfx (@hg)
  repeat refine evF ?_
  have dfk := @hg
  refine aa (hK _ (a8 [1, 2, 6] ?_))
  clear hK K
  refine dwI (fun hb => ?_) (fun hb => ?_)
  ·refine ab (dwR fun K hK => ?_)
   repeat refine evF ?_
   refine aa (hK _ (dwK [2, 3] ?_))
   clear hK K
   refine cw 2 0 82 1 (by decide) rfl rfl [2, 3] (by simp only [ac, C.at, C.put, List.dropLast, List.isPrefixOf, simprocAttr, List.modify_zero_cons, List.modify_succ_cons]; exact rfl) ?_
   refine cw 2 1 3 1 (by decide) rfl rfl [2, 3] (by simp only [ac, C.at, C.put, List.dropLast, List.isPrefixOf, simprocAttr, List.modify_zero_cons, List.modify_succ_cons]; exact rfl) ?_
   refine cw 2 2 3 1 (by decide) rfl rfl [2, 3] (by simp only [ac, C.at, C.put, List.dropLast, List.isPrefixOf, simprocAttr, List.modify_zero_cons, List.modify_succ_cons]; exact rfl) ?_
   exact ak (aq Tryz.results81 (.two (.cell 2 _ _ _ _ rfl rfl an rfl rfl (am net0)) (.plain _ _ rfl)) (by decide) (by rw [okN, if_neg (by rw [hg]; decide), hg]; rfl))
  ·cases hb
def qNetworkSt6 : Nat → Stat
 | 0 => ⟨[2], [(2, 1)], [], [37], [], []⟩
 | 1 => ⟨[37], [(2, 1)], [], [38], [], []⟩
 | 2 => ⟨[5], [], [], [39], [], []⟩
 | 3 => ⟨[38, 39], [], [], [40], [], []⟩
 | 4 => ⟨[40], [], [], [41], [], []⟩
 | 5 => ⟨[41], [], [], [42], [], []⟩
 | 6 => ⟨[3], [(3, 1)], [], [43], [], []⟩
 | 7 => ⟨[43], [(3, 1)], [], [44], [], []⟩
 | 8 => ⟨[5], [], [], [45], [], []⟩
 | 9 => ⟨[44, 45], [], [], [46], [], []⟩
 | 10 => ⟨[46], [], [], [47], [], []⟩
 | 11 => ⟨[47], [], [], [48], [], []⟩
 | 12 => ⟨[42, 48], [], [], [49], [], []⟩
 | _ => ⟨[], [], [], [], [], []⟩
def np : Nat → Stat
 | 0 => ⟨[7], [(7, 1)], [7], [61], [], []⟩
 | 1 => ⟨[3], [(3, 1)], [], [62], [], []⟩
 | 2 => ⟨[62], [(3, 1)], [], [63], [], []⟩
 | 3 => ⟨[5], [], [], [64], [], []⟩
 | 4 => ⟨[63, 64], [], [], [65], [], []⟩
 | 5 => ⟨[65], [], [], [66], [], []⟩
 | 6 => ⟨[6], [], [], [67], [], []⟩
 | 7 => ⟨[66, 67], [], [], [68], [], []⟩
 | 8 => ⟨[68], [], [], [69], [], []⟩
 | 9 => ⟨[61, 69], [], [], [70], [], []⟩
 | _ => ⟨[], [], [], [], [], []⟩
theorem Cg (f f2 : NF) (N : Net) (hl : N.ends.length ≤ 1000000) (hd : ∀ v, v < N.ends.length → (gl N.ends v).length ≤ 1000000) (hi : N.ids.length ≤ 1000000) (hj : N.inputs.length ≤ 1000000) : DCalls Tryz.prog 29 [.agg (bv f N), .agg (bv f2 N)] (fun r => r = [.c (.p (.bool true))]) := by
 have h1 := nk N.ids
 have h2 := nk N.inputs
 refine ao Tryz.func29 rfl (by rw [Tryz.ntmps29]; simp) fun w0 => ?_
 rw [Tryz.ntmps29]
 have dfx := Kl
 simp only [ce, be, Arg.av, bv, cm, ints, ends]
 refine ab (dwR fun K hK => ?_)
 repeat refine evF ?_
 refine aa (hK _ (dwK [2, 3] ?_))
 clear hK K
 refine ab ?_
 have dfx := And.intro dfx (@bne_self_eq_false.{0})
 refine ab (dwR fun K hK => ?_)
 repeat refine evF ?_
 have dfx := And.intro dfx (@bne_self_eq_false.{0})
 refine cgF rfl rfl ⟨rfl, _, rfl⟩ (by omega) (by first | exact Dr) (i8 false f.t3 N.ids false f2.t3 N.ids hi hi) ?_
 rintro _ rfl
 repeat refine evF ?_
 have dfx := And.intro dfx (And.intro @bne_self_eq_false.{0} @h1)
 repeat refine evF ?_
 have dfx := And.intro dfx (And.intro @bne_self_eq_false.{0} @h1)
 refine cgF rfl rfl ⟨rfl, _, rfl⟩ (by omega) (by first | exact Dr) (i8 false f.t4 N.inputs false f2.t4 N.inputs hj hj) ?_
 rintro _ rfl
 repeat refine evF ?_
 have dfx := And.intro dfx (And.intro @bne_self_eq_false.{0} (And.intro @h1 @h2))
 repeat refine evF ?_
 have dfk := And.intro @bne_self_eq_false.{0} (And.intro @h1 @h2)
 refine aa (hK _ (a8 [2, 3, 30] ?_))
 clear hK K
 refine dwI (fun hb => ?_) (fun hb => ?_)
 ·cases hb
 ·refine ai ?_
  show DW _ _ _ _ _
  refine ab ?_
  refine ab (dwR fun K hK => ?_)
  repeat refine evF ?_
  refine aa (hK _ (dwK [2, 3, 33, 34] ?_))
  clear hK K
  refine ae ?_
  refine ax (X := Nat) (fun v => v ≤ N.ends.length) (fun v => [(34, .c (.p (.int .i64 v)))]) (fun v => []) (fun v => N.ends.length - v) 0 (Nat.zero_le _) (by first | rfl | (simp only [ac, C.at, C.put, List.dropLast, List.isPrefixOf, simprocAttr, Int.natCast_zero] <;> rfl)) ?_
  rintro v hv
  intro E hE
  simp only [ac, C.at, C.put, List.dropLast, List.isPrefixOf, simprocAttr] at hE
  subst hE
  refine ab (dwR fun K hK => ?_)
  repeat refine evF ?_
  refine aa (hK _ (dwK [2, 3, 33, 34, 35] ?_))
  clear hK K
  refine ab (dwI (fun hb => ?_) (fun hb => ?_))
  ·have hv1 : v < N.ends.length := by simpa using hb
   have hdv := hd v hv1
   refine ai ?_
   show DW _ _ _ _ _
   refine ab (ae ?_)
   refine ab (dwR fun K hK => ?_)
   repeat refine evF ?_
   refine aa (hK _ (dwK [2, 3, 5, 33, 34] ?_))
   clear hK K
   refine ab ?_
   have dfx := And.intro dfx (And.intro @qNetworkSt6.eq_def (And.intro @bne_self_eq_false.{0} @Int.toNat_natCast))
   refine ab (gk qNetworkSt6 (fun j r => match j with | _ => True) fun K hK => ?_)
   repeat refine dvF ?_
   have dfk := @bne_self_eq_false.{0}
   refine bt (hK _ (a8 [2, 3, 5, 33, 34, 49] ?_))
   clear hK K
   refine dwI (fun hb => ?_) (fun hb => ?_)
   ·cases hb
   ·refine ai ?_
    show DW _ _ _ _ _
    have dfx := And.intro dfx (@Int.toNat_natCast)
    refine ab (dwR fun K hK => ?_)
    repeat refine evF ?_
    refine aa (hK _ (dwK [2, 3, 5, 33, 34, 54, 55, 56] ?_))
    clear hK K
    refine ae ?_
    refine ax (X := Nat) (fun i => i ≤ (gl N.ends v).length) (fun i => [(56, .c (.p (.int .i64 i)))]) (fun i => []) (fun i => (gl N.ends v).length - i) 0 (Nat.zero_le _) (by first | rfl | (simp only [ac, C.at, C.put, List.dropLast, List.isPrefixOf, simprocAttr, Int.natCast_zero] <;> rfl)) ?_
    rintro i hi0
    intro E hE
    simp only [ac, C.at, C.put, List.dropLast, List.isPrefixOf, simprocAttr] at hE
    subst hE
    refine ab (dwR fun K hK => ?_)
    repeat refine evF ?_
    refine aa (hK _ (dwK [2, 3, 5, 33, 34, 54, 55, 56, 57] ?_))
    clear hK K
    refine ab (dwI (fun hb => ?_) (fun hb => ?_))
    ·have hi1 : i < (gl N.ends v).length := by simpa using hb
     refine ai ?_
     show DW _ _ _ _ _
     refine ab (ae ?_)
     have dfx := And.intro dfx (@Int.toNat_natCast)
     refine ab (dwR fun K hK => ?_)
     repeat refine evF ?_
     refine aa (hK _ (dwK [2, 3, 5, 6, 7, 33, 34, 54, 55, 56] ?_))
     clear hK K
     refine ab (gk np (fun j r => match j with | _ => True) fun K hK => ?_)
     repeat (apply zc; (focus exact rfl); (focus simp (disch := first | omega | (intros; contradiction)) only [ac, bd, l7, C.at, C.put, List.dropLast, List.isPrefixOf, simprocAttr, an, bb, cl, bm, bj, if_pos, b7, bn, b4, b0, br, a7, a6 , np, Vw, bne_self_eq_false, beq_self_eq_true, Bool.and_self, Bool.not_true, Int.toNat_natCast]); (focus (simp (disch := first | omega | (intros; contradiction)) only [ac, bd, C.at, C.put, List.dropLast, List.isPrefixOf, simprocAttr, an, bb, cl, bm, bj, if_pos, b7, bn, b4, b0, br, a7, a6 , np, Vw, bne_self_eq_false, beq_self_eq_true, Bool.and_self, Bool.not_true, Int.toNat_natCast]; exact rfl)))
     have dfk := And.intro @bne_self_eq_false.{0} @beq_self_eq_true.{0}
     refine bt (hK _ (a8 [2, 3, 5, 33, 34, 54, 55, 56, 70] ?_))
     clear hK K
     refine dwI (fun hb => ?_) (fun hb => ?_)
     ·cases hb
     ·refine ai ?_
      show DW _ _ _ _ _
      refine dwR fun K hK => ?_
      repeat refine evF ?_
      have dfk := @cd
      refine aa (hK _ ?_)
      clear hK K
      show ∃ x, _ ∧ _ ∧ Weak _ _
      refine ⟨i + 1, ?_, ?_, ay [2, 3, 5, 33, 34, 54, 55, 56]⟩
      ·omega
      ·omega
    ·refine ap ?_
     refine bc [2, 3, 33, 34] (by simp only [ac, C.at, C.put, List.dropLast, List.isPrefixOf, simprocAttr]; exact rfl) ?_
     refine dwR fun K hK => ?_
     repeat refine evF ?_
     have dfk := @cd
     refine aa (hK _ ?_)
     clear hK K
     show ∃ x, _ ∧ _ ∧ Weak _ _
     refine ⟨v + 1, ?_, ?_, ay [2, 3, 33, 34]⟩
     ·omega
     ·omega
  ·refine ap ?_
   refine bc [] (by simp only [ac, C.at, C.put, List.dropLast, List.isPrefixOf, simprocAttr]; exact rfl) ?_
   refine ab (dwR fun K hK => ?_)
   repeat refine evF ?_
   refine aa (hK _ (dwK [4] ?_))
   clear hK K
   exact ak (aq Tryz.results29 (.one (.plain _ _ rfl)) (by decide) rfl)
end Go.Proofs.YtdiiggpohcjppaaGreat
