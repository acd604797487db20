/- Parts of the proof, joined: Dsm, Dfn. -/
import Derived.Test.YtdiiggpohcjppaaGreatCJn22
import Derived.Test.YtdiiggpohcjppaaGreatCJn25
import Derived.Test.YtdiiggpohcjppaaGreatCDt
import Derived.Test.YtdiiggpohcjppaaGreatCJn8
set_option linter.unusedSimpArgs false
set_option linter.unusedVariables false
namespace Go.Proofs.YtdiiggpohcjppaaGreat
section
open Go Go.RowKit
def C9 (xs ys : List Int) : Bool := decide (xs = ys)
theorem nk (xs : List Int) : C9 xs xs = true := decide_eq_true rfl
theorem Qf {xs ys : List Int} (hl : xs.length = ys.length) (h : ∀ j, j < xs.length → gi xs j = gi ys j) : C9 xs ys = true := by
 refine decide_eq_true (List.ext_getElem hl fun i h1 h2 => ?_)
 have := h i h1
 rwa [b6 h1, b6 h2] at this
def sameIntsSt6 : Nat → Stat
 | 0 => ⟨[0], [], [], [16], [], []⟩
 | 1 => ⟨[5], [], [], [17], [], []⟩
 | 2 => ⟨[16, 17], [], [], [18], [], []⟩
 | 3 => ⟨[18], [], [], [19], [], []⟩
 | 4 => ⟨[1], [], [], [20], [], []⟩
 | 5 => ⟨[5], [], [], [21], [], []⟩
 | 6 => ⟨[20, 21], [], [], [22], [], []⟩
 | 7 => ⟨[22], [], [], [23], [], []⟩
 | 8 => ⟨[19, 23], [], [], [24], [], []⟩
 | _ => ⟨[], [], [], [], [], []⟩
def zBDsm1 := PLift.up (And.intro bb (And.intro cl (And.intro @if_pos.{1} (And.intro @br @trivial))))
theorem Xk : type_of% zBDsm1.down := zBDsm1.down
set_option maxRecDepth 8000 in
set_option maxHeartbeats 0 in
theorem i8 (o : Bool) (t : TypeId) (xs : List Int) (o2 : Bool) (t2 : TypeId) (ys : List Int) (hxl : xs.length ≤ 1000000) (hyl : ys.length ≤ 1000000) : DCalls Tryz.prog 12 [.c (.sl o t 1 (xs.map iC)), .c (.sl o2 t2 1 (ys.map iC))] (fun q => q = [.c (.p (.bool (C9 xs ys)))]) := by -- params []int, []int
 refine ao Tryz.func12 rfl (by rw [Tryz.ntmps12]; simp) fun w0 => ?_
 rw [Tryz.ntmps12]
 have dfx := Xk
 simp only [ce, be, Arg.av, bv, cm, ints, ends]
 refine ab (dwR fun K hK => ?_)
 repeat refine evF ?_
 refine aa (hK _ (dwK [0, 1] ?_))
 clear hK K
 refine ab ?_
 refine ab (dwR fun K hK => ?_)
 repeat refine evF ?_
 refine aa (hK _ (dwK [0, 1, 10] ?_))
 clear hK K
 refine dwI (fun hb => ?_) (fun hb => ?_)
 ·have hne : C9 xs ys = false := decide_eq_false fun e => by subst e; simp at hb
  refine ab (dwR fun K hK => ?_)
  repeat refine evF ?_
  refine aa (hK _ (dwK [4] ?_))
  clear hK K
  exact ak (aq Tryz.results12 (.one (.plain _ _ rfl)) (by decide) (by rw [hne]))
 ·have hl : xs.length = ys.length := by simp at hb; omega
  refine ai ?_
  show DW _ _ _ _ _
  refine ab ?_
  refine ab (dwR fun K hK => ?_)
  repeat refine evF ?_
  refine aa (hK _ (dwK [0, 1, 12, 13] ?_))
  clear hK K
  refine ae ?_
  refine ax (X := Nat) (fun k => k ≤ xs.length ∧ ∀ j, j < k → gi xs j = gi ys j) (fun k => [(13, .c (.p (.int .i64 k)))]) (fun k => []) (fun k => xs.length - k) 0 ⟨Nat.zero_le _, fun j hj => by simp at hj⟩ (by first | rfl | (simp only [ac, C.at, C.put, List.dropLast, List.isPrefixOf, simprocAttr, Int.natCast_zero] <;> rfl)) ?_
  rintro k ⟨hk, hs⟩
  intro E hE
  simp only [ac, C.at, C.put, List.dropLast, List.isPrefixOf, simprocAttr] at hE
  subst hE
  refine ab (dwR fun K hK => ?_)
  repeat refine evF ?_
  refine aa (hK _ (dwK [0, 1, 12, 13, 14] ?_))
  clear hK K
  refine ab (dwI (fun hb => ?_) (fun hb => ?_))
  ·have hkl : k < xs.length := by simpa using hb
   have hkl2 : k < ys.length := by omega
   refine ai ?_
   show DW _ _ _ _ _
   refine ab (ae ?_)
   refine ab (dwR fun K hK => ?_)
   repeat refine evF ?_
   refine aa (hK _ (dwK [0, 1, 5, 12, 13] ?_))
   clear hK K
   have dfx := And.intro dfx (@sameIntsSt6.eq_def)
   refine ab (gk sameIntsSt6 (fun j r => True) fun K hK => ?_)
   repeat refine dvF ?_
   refine bt (hK _ (dwK [0, 1, 12, 13, 24] ?_))
   clear hK K
   refine dwI (fun hb => ?_) (fun hb => ?_)
   ·have hne : C9 xs ys = false := decide_eq_false fun e => by subst e; simp at hb
    refine ab (dwR fun K hK => ?_)
    repeat refine evF ?_
    refine aa (hK _ (dwK [4] ?_))
    clear hK K
    exact ak (aq Tryz.results12 (.one (.plain _ _ rfl)) (by decide) (by rw [hne]))
   ·have he : gi xs k = gi ys k := by simpa using hb
    refine ai ?_
    show DW _ _ _ _ _
    refine dwR fun K hK => ?_
    repeat refine evF ?_
    have dfk := @cd
    refine aa (hK _ ?_)
    clear hK K
    show ∃ x, _ ∧ _ ∧ Weak _ _
    refine ⟨k + 1, ?_, ?_, ay [0, 1, 12, 13]⟩
    ·refine ⟨hkl, fun j hj => ?_⟩
     rcases Nat.lt_or_ge j k with h | h
     ·exact hs j h
     ·obtain rfl : j = k := by omega
      exact he
    ·omega
  ·have hkl : k = xs.length := by
    have : ¬ (k : Int) < (xs.length : Int) := by simpa using hb
    omega
   subst hkl
   have hne : C9 xs ys = true := Qf hl hs
   refine ap ?_
   refine dwK [] ?_
   refine ab (dwR fun K hK => ?_)
   repeat refine evF ?_
   refine aa (hK _ (dwK [4] ?_))
   clear hK K
   exact ak (aq Tryz.results12 (.one (.plain _ _ rfl)) (by decide) (by rw [hne]))
end
section
set_option maxHeartbeats 0
set_option maxRecDepth 8000
open Go Go.RowKit
def tb (n : Nat) (b : Nat → Bool) : Int := match (List.range n).find? b with
 | some i => i
 | none => -1
theorem w9 {n i : Nat} {b : Nat → Bool} (hi : i < n) (hb : b i = true) (hn : ∀ j, j < i → b j = false) : tb n b = i := by
 unfold tb
 have : (List.range n).find? b = some i := by
  rw [List.find?_range_eq_some]
  exact ⟨hb, by simpa using hi, fun j hj => by simp [hn j hj]⟩
 rw [this]
theorem xb {n : Nat} {b : Nat → Bool} (hn : ∀ j, j < n → b j = false) : tb n b = -1 := by
 unfold tb
 have : (List.range n).find? b = none := by
  rw [List.find?_eq_none]
  exact fun j hj => by simp [hn j (by simpa using hj)]
 rw [this]
def zBDfn1 := PLift.up (And.intro bb (And.intro cl (And.intro @if_pos.{1} (And.intro @b7 (And.intro @br (And.intro @Int.toNat_natCast @trivial))))))
theorem Fp : type_of% zBDfn1.down := zBDfn1.down
theorem Is (o : Bool) (t : TypeId) (xs : List Int) (g : FuncId) (css : List (List C)) (b : Nat → Bool) (hl : xs.length ≤ 1000000) (hm : aj Tryz.prog g = true) (hg : ∀ j, j < xs.length → DCalls Tryz.prog g ([.c (.p (.int .i64 (gi xs j)))] ++ css.map .rp) (fun r => r = [.c (.p (.bool (b j)))])) : DCalls Tryz.prog 135 [.c (.sl o t 1 (xs.map iC)), .fn g css] (fun r => r = [.c (.p (.int .i64 (tb xs.length b)))]) := by -- params []int, func(int) bool
 refine ao Tryz.func135 rfl (by rw [Tryz.ntmps135]; simp) fun w0 => ?_
 rw [Tryz.ntmps135]
 have dfx := Fp
 simp only [ce, be, Arg.av, bv, cm, ints, ends]
 refine ab (dwR fun K hK => ?_)
 repeat refine evF ?_
 refine aa (hK _ (dwK [0, 1] ?_))
 clear hK K
 refine ab ?_
 refine ab (dwR fun K hK => ?_)
 repeat refine evF ?_
 refine aa (hK _ (dwK [0, 1, 7, 8] ?_))
 clear hK K
 refine ae ?_
 refine ax (X := Nat) (fun k => k ≤ xs.length ∧ ∀ j, j < k → b j = false) (fun k => [(8, .c (.p (.int .i64 k)))]) (fun k => []) (fun k => xs.length - k) 0 ⟨Nat.zero_le _, fun j hj => by simp at hj⟩ (by first | rfl | (simp only [ac, C.at, C.put, List.dropLast, List.isPrefixOf, simprocAttr, Int.natCast_zero] <;> rfl)) ?_
 rintro k ⟨hk, hne⟩
 intro E hE
 simp only [ac, C.at, C.put, List.dropLast, List.isPrefixOf, simprocAttr] at hE
 subst hE
 refine ab (dwR fun K hK => ?_)
 repeat refine evF ?_
 refine aa (hK _ (dwK [0, 1, 7, 8, 9] ?_))
 clear hK K
 refine ab (dwI (fun hb => ?_) (fun hb => ?_))
 ·have hkl : k < xs.length := by simpa using hb
  refine ai ?_
  show DW _ _ _ _ _
  refine ab (ae ?_)
  refine ab (dwR fun K hK => ?_)
  repeat refine evF ?_
  refine aa (hK _ (dwK [0, 1, 5, 7, 8] ?_))
  clear hK K
  refine ab (dwR fun K hK => ?_)
  repeat refine evF ?_
  refine qe rfl ⟨rfl, _, rfl⟩ (by omega) (by simp (disch := first | omega | (intros; contradiction)) only [ac, bd, C.at, C.put, List.dropLast, List.isPrefixOf, simprocAttr, bb, cl, if_pos, b7, br, Int.toNat_natCast] <;> exact rfl) (by first | assumption) (by simp (disch := first | omega | (intros; contradiction)) only [ac, bd, C.at, C.put, List.dropLast, List.isPrefixOf, simprocAttr, bb, cl, if_pos, b7, br, Int.toNat_natCast] <;> exact rfl) (hg k hkl) ?_
  rintro _ rfl
  repeat refine evF ?_
  refine aa (hK _ (dwK [0, 1, 5, 7, 8, 16] ?_))
  clear hK K
  refine dwI (fun hb => ?_) (fun hb => ?_)
  ·have hi : tb xs.length b = k := w9 hkl hb hne
   refine ab (dwR fun K hK => ?_)
   repeat refine evF ?_
   refine aa (hK _ (dwK [4] ?_))
   clear hK K
   exact ak (aq Tryz.results135 (.one (.plain _ _ rfl)) (by decide) (by rw [hi]))
  ·refine ai ?_
   show DW _ _ _ _ _
   refine dwR fun K hK => ?_
   repeat refine evF ?_
   have dfk := @cd
   refine aa (hK _ ?_)
   clear hK K
   show ∃ x, _ ∧ _ ∧ Weak _ _
   refine ⟨k + 1, ?_, ?_, ay [0, 1, 7, 8]⟩
   ·refine ⟨hkl, fun j hj => ?_⟩
    rcases Nat.lt_or_ge j k with h | h
    ·exact hne j h
    ·obtain rfl : j = k := by omega
     exact hb
   ·omega
 ·have hkl : k = xs.length := by
   have : ¬ (k : Int) < (xs.length : Int) := by simpa using hb
   omega
  subst hkl
  have hi : tb xs.length b = -1 := xb hne
  refine ap ?_
  refine dwK [] ?_
  refine ab (dwR fun K hK => ?_)
  repeat refine evF ?_
  refine aa (hK _ (dwK [4] ?_))
  clear hK K
  exact ak (aq Tryz.results135 (.one (.plain _ _ rfl)) (by decide) (by rw [hi]))
def rm (n : Nat) (b : Nat → Bool) : Bool := (List.range n).any b
theorem Ff (n : Nat) (b : Nat → Bool) : decide ((0 : Int) ≤ tb n b) = rm n b := by
 unfold tb rm
 cases h : (List.range n).find? b with
 | none =>
  have : (List.range n).any b = false := by
   rw [List.any_eq_false]
   intro x hx
   exact List.find?_eq_none.1 h x hx
  rw [this]; rfl
 | some i =>
  have : (List.range n).any b = true := List.any_eq_true.2 ⟨i, List.mem_of_find?_eq_some h, List.find?_some h⟩
  rw [this]; simp
theorem qk (o : Bool) (t : TypeId) (xs : List Int) (g : FuncId) (css : List (List C)) (b : Nat → Bool) (hl : xs.length ≤ 1000000) (hm : aj Tryz.prog g = true) (hg : ∀ j, j < xs.length → DCalls Tryz.prog g ([.c (.p (.int .i64 (gi xs j)))] ++ css.map .rp) (fun r => r = [.c (.p (.bool (b j)))])) : DCalls Tryz.prog 91 [.c (.sl o t 1 (xs.map iC)), .fn g css] (fun r => r = [.c (.p (.bool (rm xs.length b)))]) := by -- params []int, func(int) bool
 refine ao Tryz.func91 rfl (by rw [Tryz.ntmps91]; simp) fun w0 => ?_
 rw [Tryz.ntmps91]
 have dfx := Fp
 simp only [ce, be, Arg.av, bv, cm, ints, ends]
 refine ab (dwR fun K hK => ?_)
 repeat refine evF ?_
 refine aa (hK _ (dwK [0, 1] ?_))
 clear hK K
 refine ab (dwR fun K hK => ?_)
 repeat (apply cg; (focus exact rfl); (focus (simp (disch := first | omega | (intros; contradiction)) only [ac, bd, C.at, C.put, List.dropLast, List.isPrefixOf, simprocAttr, bb, cl, if_pos, b7, br, Int.toNat_natCast , E6]; exact rfl)))
 refine ee rfl ⟨rfl, _, rfl⟩ (by omega) (by first | exact E6) (by simp (disch := first | omega | (intros; contradiction)) only [ac, bd, C.at, C.put, List.dropLast, List.isPrefixOf, simprocAttr, bb, cl, if_pos, b7, br, Int.toNat_natCast , E6] <;> exact rfl) (Is o t xs g css b hl hm hg) ?_
 rintro _ rfl
 repeat (apply cg; (focus exact rfl); (focus (simp (disch := first | omega | (intros; contradiction)) only [ac, bd, C.at, C.put, List.dropLast, List.isPrefixOf, simprocAttr, bb, cl, if_pos, b7, br, Int.toNat_natCast , E6]; exact rfl)))
 refine aa (hK _ (dwK [4] ?_))
 clear hK K
 exact ak (aq Tryz.results91 (.one (.plain _ _ rfl)) (by decide) (by rw [← Ff]))
theorem Sz (xs : List Int) (p : Int → Bool) : (!(rm xs.length fun j => !(p (gi xs j)))) = xs.all p := by
 rw [rm, ← List.not_all_eq_any_not, Bool.not_not, Bool.eq_iff_iff, List.all_eq_true, List.all_eq_true]
 constructor
 ·intro h x hx
  obtain ⟨i, hi, rfl⟩ := List.getElem_of_mem hx
  have := h i (by simpa using hi)
  rwa [b6 hi] at this
 ·intro h j hj
  have hj : j < xs.length := by simpa using hj
  rw [b6 hj]
  exact h _ (List.getElem_mem hj)
theorem ft (n lo hi : Int) : DCalls Tryz.prog 65 [.c (.p (.int .i64 n)), .c (.p (.int .i64 lo)), .c (.p (.int .i64 hi))] (fun r => r = [.c (.p (.bool (inB n lo hi)))]) := jn fun w vs h1 h2 => by
 obtain ⟨u, v, t, rfl, g1, g2, g3⟩ := Vy h1 h2
 rw [Cq g1, Cq g2, Cq g3]
 exact (dl n lo hi w).mono fun _ _ h => RetQ.v h
theorem Fz (n lo hi : Int) : DCalls Tryz.prog 172 [.c (.p (.int .i64 n)), .rp [.p (.int .i64 lo)], .rp [.p (.int .i64 hi)]] (fun r => r = [.c (.p (.bool !(inB n lo hi)))]) := by -- params int
 refine ao Tryz.func172 rfl (by rw [Tryz.ntmps172]; simp) fun w0 => ?_
 rw [Tryz.ntmps172]
 have dfx := Fp
 simp only [ce, be, Arg.av, bv, cm, ints, ends]
 refine ab (dwR fun K hK => ?_)
 repeat refine evF ?_
 refine aa (hK _ (dwK [0, 1, 2] ?_))
 clear hK K
 refine ab (dwR fun K hK => ?_)
 repeat refine evF ?_
 refine clF rfl ⟨rfl, _, rfl⟩ (by omega) (by first | exact j3) (ft n lo hi) ?_
 rintro _ rfl
 repeat refine evF ?_
 refine aa (hK _ (dwK [4] ?_))
 clear hK K
 exact ak (aq Tryz.results172 (.one (.plain _ _ rfl)) (by decide) rfl)
theorem yk (o : Bool) (t : TypeId) (xs : List Int) (lo hi : Int) (hl : xs.length ≤ 1000000) : DCalls Tryz.prog 131 [.c (.sl o t 1 (xs.map iC)), .c (.p (.int .i64 lo)), .c (.p (.int .i64 hi))] (fun r => r = [.c (.p (.bool (xs.all fun n => inB n lo hi)))]) := by -- params []int, int, int
 refine ao Tryz.func131 rfl (by rw [Tryz.ntmps131]; simp) fun w0 => ?_
 rw [Tryz.ntmps131]
 have dfx := Fp
 simp only [ce, be, Arg.av, bv, cm, ints, ends]
 refine ab (dwR fun K hK => ?_)
 repeat refine evF ?_
 refine aa (hK _ (dwK [0, 4, 5] ?_))
 clear hK K
 refine ab (dwR fun K hK => ?_)
 repeat (apply cg; (focus exact rfl); (focus (simp (disch := first | omega | (intros; contradiction)) only [ac, bd, C.at, C.put, List.dropLast, List.isPrefixOf, simprocAttr, bb, cl, if_pos, b7, br, Int.toNat_natCast , x7]; exact rfl)))
 refine ee rfl ⟨rfl, _, rfl⟩ (by omega) (by first | exact x7) (by simp (disch := first | omega | (intros; contradiction)) only [ac, bd, C.at, C.put, List.dropLast, List.isPrefixOf, simprocAttr, bb, cl, if_pos, b7, br, Int.toNat_natCast , x7] <;> exact rfl) (qk o t xs 172 [[.p (.int .i64 lo)], [.p (.int .i64 hi)]] (fun j => !(inB (gi xs j) lo hi)) hl (by exact W2) fun j hj => Fz _ lo hi) ?_
 rintro _ rfl
 repeat (apply cg; (focus exact rfl); (focus (simp (disch := first | omega | (intros; contradiction)) only [ac, bd, C.at, C.put, List.dropLast, List.isPrefixOf, simprocAttr, bb, cl, if_pos, b7, br, Int.toNat_natCast , x7]; exact rfl)))
 refine aa (hK _ (dwK [6] ?_))
 clear hK K
 exact ak (aq Tryz.results131 (.one (.plain _ _ rfl)) (by decide) (congrArg (fun b => [RV.c (C.p (.bool b))]) (Sz xs fun n => inB n lo hi)))
end
end Go.Proofs.YtdiiggpohcjppaaGreat
