/- Parts of the proof. -/
import Derived.Test.YtolpiolnhgpjjaaGreatCJn19
import Derived.Test.YtolpiolnhgpjjaaGreatCDcv
import Derived.Test.YtolpiolnhgpjjaaGreatCDt
import Derived.Test.YtolpiolnhgpjjaaGreatCJn9
set_option linter.unusedSimpArgs false
set_option linter.unusedVariables false
namespace Go.Proofs.YtolpiolnhgpjjaaGreat
section
open Go Go.RowKit
def Bf (xs ys : List Int) : Bool := decide (xs = ys)
theorem qq (xs : List Int) : Bf xs xs = true := decide_eq_true rfl
theorem Ol {xs ys : List Int} (hl : xs.length = ys.length) (h : ∀ j, j < xs.length → gi xs j = gi ys j) : Bf xs ys = true := by
 refine decide_eq_true (List.ext_getElem hl fun i h1 h2 => ?_);have := h i h1;rwa [bm h1, bm h2] at this
def sameIntsSt6 : Nat → Stat
 | 0 => ⟨[0], [], [], [16], [], []⟩
 | 1 => ⟨[5], [], [], [17], [], []⟩
 | 2 => ⟨[16, 17], [], [], [18], [], []⟩
 | 3 => ⟨[18], [], [], [19], [], []⟩
 | 4 => ⟨[1], [], [], [20], [], []⟩
 | 5 => ⟨[5], [], [], [21], [], []⟩
 | 6 => ⟨[20, 21], [], [], [22], [], []⟩
 | 7 => ⟨[22], [], [], [23], [], []⟩
 | 8 => ⟨[19, 23], [], [], [24], [], []⟩
 | _ => ⟨[], [], [], [], [], []⟩
def zBDsm1 := PLift.up (And.intro bc (And.intro b9 (And.intro @if_pos.{1} (And.intro @bq @trivial))))
theorem Vs : type_of% zBDsm1.down := zBDsm1.down
set_option maxRecDepth 8000 in
set_option maxHeartbeats 0 in
theorem qr (o : Bool) (t : TypeId) (xs : List Int) (o2 : Bool) (t2 : TypeId) (ys : List Int) (hxl : xs.length ≤ 1000000) (hyl : ys.length ≤ 1000000) : DCalls Tryz.prog 11 [.c (.sl o t 1 (xs.map iC)), .c (.sl o2 t2 1 (ys.map iC))] (fun q => q = [.c (.p (.bool (Bf xs ys)))]) := by
 refine am Tryz.func11 rfl (by rw [Tryz.ntmps11]; simp) fun w0 => ?_;rw [Tryz.ntmps11];have dX := Vs;simp only [b4, bd, Arg.av, bi, b7, ints, ends];refine ab (dR fun K hK => ?_);(repeat refine eV ?_);refine aa (hK _ (wK [0, 1] ?_));clear hK K;refine ab ?_;refine ab (dR fun K hK => ?_);(repeat refine eV ?_);refine aa (hK _ (wK [0, 1, 10] ?_));clear hK K;refine dI ?_ ?_<;>intro hb
 ·have hne : Bf xs ys = false := decide_eq_false fun e => by subst e; simp at hb
  refine ab (dR fun K hK => ?_);(repeat refine eV ?_);refine aa (hK _ (wK [4] ?_));clear hK K;exact ak (an Tryz.results11 (.one (.plain _ _ rfl)) (by decide) (by rw [hne]))
 ·have hl : xs.length = ys.length := by simp at hb; omega
  refine af ?_;show DW _ _ _ _ _;refine ab ?_;refine ab (dR fun K hK => ?_);(repeat refine eV ?_);refine aa (hK _ (wK [0, 1, 12, 13] ?_));clear hK K;refine ae ?_;refine au (X := Nat) (fun k => k ≤ xs.length ∧ ∀ j, j < k → gi xs j = gi ys j) (fun k => [(13, .c (.p (.int .i64 k)))]) (fun k => []) (fun k => xs.length - k) 0 ⟨Nat.zero_le _, fun j hj => by simp at hj⟩ (by first | rfl | (simp only [ac, pZ, simprocAttr, Int.natCast_zero] <;> rfl)) ?_;rintro k ⟨hk, hs⟩;intro E hE;simp only [ac, pZ, simprocAttr] at hE;subst hE;refine ab (dR fun K hK => ?_);(repeat refine eV ?_);refine aa (hK _ (wK [0, 1, 12, 13, 14] ?_));clear hK K;refine ab (dI (fun hb => ?_) (fun hb => ?_))
  ·have hkl : k < xs.length := by simpa using hb
   have hkl2 : k < ys.length := by omega
   refine af ?_;show DW _ _ _ _ _;refine ab (ae ?_);refine ab (dR fun K hK => ?_);(repeat refine eV ?_);refine aa (hK _ (wK [0, 1, 5, 12, 13] ?_));clear hK K;have dX := And.intro dX (@sameIntsSt6.eq_def);refine ab (fk sameIntsSt6 (fun j r => True) fun K hK => ?_);(repeat refine dV ?_);refine br (hK _ (wK [0, 1, 12, 13, 24] ?_));clear hK K;refine dI ?_ ?_<;>intro hb
   ·have hne : Bf xs ys = false := decide_eq_false fun e => by subst e; simp at hb
    refine ab (dR fun K hK => ?_);(repeat refine eV ?_);refine aa (hK _ (wK [4] ?_));clear hK K;exact ak (an Tryz.results11 (.one (.plain _ _ rfl)) (by decide) (by rw [hne]))
   ·have he : gi xs k = gi ys k := by simpa using hb
    refine af ?_;show DW _ _ _ _ _;refine dR fun K hK => ?_;(repeat refine eV ?_);have dK := @bt;refine aa (hK _ ?_);clear hK K;show ∃ x, _ ∧ _ ∧ Weak _ _;refine ⟨k + 1, ?_, ?_, aq [0, 1, 12, 13]⟩
    ·refine ⟨hkl, fun j hj => ?_⟩
     rcases Nat.lt_or_ge j k with h | h
     ·exact hs j h
     ·obtain rfl : j = k := by omega
      exact he
    ·omega
  ·have hkl : k = xs.length := by
    have : ¬ (k : Int) < (xs.length : Int) := by simpa using hb
    omega
   subst hkl;have hne : Bf xs ys = true := Ol hl hs;refine ao ?_;refine wK [] ?_;refine ab (dR fun K hK => ?_);(repeat refine eV ?_);refine aa (hK _ (wK [4] ?_));clear hK K;exact ak (an Tryz.results11 (.one (.plain _ _ rfl)) (by decide) (by rw [hne]))
end
section
set_option maxHeartbeats 0
set_option maxRecDepth 8000
open Go Go.RowKit
def wy (n : Nat) (b : Nat → Bool) : Int := match (List.range n).find? b with
 | some i => i
 | none => -1
theorem B4 {n i : Nat} {b : Nat → Bool} (hi : i < n) (hb : b i = true) (hn : ∀ j, j < i → b j = false) : wy n b = i := by
 unfold wy
 have : (List.range n).find? b = some i := by
  rw [List.find?_range_eq_some];exact ⟨hb, by simpa using hi, fun j hj => by simp [hn j hj]⟩
 rw [this]
theorem B5 {n : Nat} {b : Nat → Bool} (hn : ∀ j, j < n → b j = false) : wy n b = -1 := by
 unfold wy
 have : (List.range n).find? b = none := by
  rw [List.find?_eq_none];exact fun j hj => by simp [hn j (by simpa using hj)]
 rw [this]
def zBDfn1 := PLift.up (And.intro bc (And.intro b9 (And.intro @if_pos.{1} (And.intro @b6 (And.intro @bq (And.intro @Int.toNat_natCast @trivial))))))
theorem Qh : type_of% zBDfn1.down := zBDfn1.down
theorem Gy (o : Bool) (t : TypeId) (xs : List Int) (g : FuncId) (css : List (List C)) (b : Nat → Bool) (hl : xs.length ≤ 1000000) (hm : aj Tryz.prog g = true) (hg : ∀ j, j < xs.length → DCalls Tryz.prog g ([.c (.p (.int .i64 (gi xs j)))] ++ css.map .rp) (fun r => r = [.c (.p (.bool (b j)))])) : DCalls Tryz.prog 118 [.c (.sl o t 1 (xs.map iC)), .fn g css] (fun r => r = [.c (.p (.int .i64 (wy xs.length b)))]) := by
 refine am Tryz.func118 rfl (by rw [Tryz.ntmps118]; simp) fun w0 => ?_;rw [Tryz.ntmps118];have dX := Qh;simp only [b4, bd, Arg.av, bi, b7, ints, ends];refine ab (dR fun K hK => ?_);(repeat refine eV ?_);refine aa (hK _ (wK [0, 1] ?_));clear hK K;refine ab ?_;refine ab (dR fun K hK => ?_);(repeat refine eV ?_);refine aa (hK _ (wK [0, 1, 7, 8] ?_));clear hK K;refine ae ?_;refine au (X := Nat) (fun k => k ≤ xs.length ∧ ∀ j, j < k → b j = false) (fun k => [(8, .c (.p (.int .i64 k)))]) (fun k => []) (fun k => xs.length - k) 0 ⟨Nat.zero_le _, fun j hj => by simp at hj⟩ (by first | rfl | (simp only [ac, pZ, simprocAttr, Int.natCast_zero] <;> rfl)) ?_;rintro k ⟨hk, hne⟩;intro E hE;simp only [ac, pZ, simprocAttr] at hE;subst hE;refine ab (dR fun K hK => ?_);(repeat refine eV ?_);refine aa (hK _ (wK [0, 1, 7, 8, 9] ?_));clear hK K;refine ab (dI (fun hb => ?_) (fun hb => ?_))
 ·have hkl : k < xs.length := by simpa using hb
  refine af ?_;show DW _ _ _ _ _;refine ab (ae ?_);refine ab (dR fun K hK => ?_);(repeat refine eV ?_);refine aa (hK _ (wK [0, 1, 5, 7, 8] ?_));clear hK K;refine ab (dR fun K hK => ?_);(repeat refine eV ?_);refine kv rfl ⟨rfl, _, rfl⟩ (by omega) (by simp (disch := first | omega | (intros; contradiction)) only [ac, bl, pZ, simprocAttr, bc, b9, if_pos, b6, bq, Int.toNat_natCast] <;> exact rfl) (by first | assumption) (by simp (disch := first | omega | (intros; contradiction)) only [ac, bl, pZ, simprocAttr, bc, b9, if_pos, b6, bq, Int.toNat_natCast] <;> exact rfl) (hg k hkl) ?_;rintro _ rfl;(repeat refine eV ?_);refine aa (hK _ (wK [0, 1, 5, 7, 8, 16] ?_));clear hK K;refine dI ?_ ?_<;>intro hb
  ·have hi : wy xs.length b = k := B4 hkl hb hne;refine ab (dR fun K hK => ?_);(repeat refine eV ?_);refine aa (hK _ (wK [4] ?_));clear hK K;exact ak (an Tryz.results118 (.one (.plain _ _ rfl)) (by decide) (by rw [hi]))
  ·refine af ?_;show DW _ _ _ _ _;refine dR fun K hK => ?_;(repeat refine eV ?_);have dK := @bt;refine aa (hK _ ?_);clear hK K;show ∃ x, _ ∧ _ ∧ Weak _ _;refine ⟨k + 1, ?_, ?_, aq [0, 1, 7, 8]⟩
   ·refine ⟨hkl, fun j hj => ?_⟩
    rcases Nat.lt_or_ge j k with h | h
    ·exact hne j h
    ·obtain rfl : j = k := by omega
     exact hb
   ·omega
 ·have hkl : k = xs.length := by
   have : ¬ (k : Int) < (xs.length : Int) := by simpa using hb
   omega
  subst hkl;have hi : wy xs.length b = -1 := B5 hne;refine ao ?_;refine wK [] ?_;refine ab (dR fun K hK => ?_);(repeat refine eV ?_);refine aa (hK _ (wK [4] ?_));clear hK K;exact ak (an Tryz.results118 (.one (.plain _ _ rfl)) (by decide) (by rw [hi]))
def jc (n : Nat) (b : Nat → Bool) : Bool := (List.range n).any b
theorem Ko (n : Nat) (b : Nat → Bool) : decide ((0 : Int) ≤ wy n b) = jc n b := by
 unfold wy jc
 cases h : (List.range n).find? b with
 | none =>
  have : (List.range n).any b = false := by
   rw [List.any_eq_false];intro x hx;exact List.find?_eq_none.1 h x hx
  rw [this]; rfl
 | some i =>
  have : (List.range n).any b = true := List.any_eq_true.2 ⟨i, List.mem_of_find?_eq_some h, List.find?_some h⟩;rw [this]; simp
theorem oz (o : Bool) (t : TypeId) (xs : List Int) (g : FuncId) (css : List (List C)) (b : Nat → Bool) (hl : xs.length ≤ 1000000) (hm : aj Tryz.prog g = true) (hg : ∀ j, j < xs.length → DCalls Tryz.prog g ([.c (.p (.int .i64 (gi xs j)))] ++ css.map .rp) (fun r => r = [.c (.p (.bool (b j)))])) : DCalls Tryz.prog 94 [.c (.sl o t 1 (xs.map iC)), .fn g css] (fun r => r = [.c (.p (.bool (jc xs.length b)))]) := by
 refine am Tryz.func94 rfl (by rw [Tryz.ntmps94]; simp) fun w0 => ?_;rw [Tryz.ntmps94];have dX := Qh;simp only [b4, bd, Arg.av, bi, b7, ints, ends];refine ab (dR fun K hK => ?_);(repeat refine eV ?_);refine aa (hK _ (wK [0, 1] ?_));clear hK K;refine ab (dR fun K hK => ?_)
 repeat (apply bz; (focus exact rfl); (focus (simp (disch := first | omega | (intros; contradiction)) only [ac, bl, pZ, simprocAttr, bc, b9, if_pos, b6, bq, Int.toNat_natCast , Dd]; exact rfl)))
 refine du rfl ⟨rfl, _, rfl⟩ (by omega) (by first | exact Dd) (by simp (disch := first | omega | (intros; contradiction)) only [ac, bl, pZ, simprocAttr, bc, b9, if_pos, b6, bq, Int.toNat_natCast , Dd] <;> exact rfl) (Gy o t xs g css b hl hm hg) ?_;rintro _ rfl
 repeat (apply bz; (focus exact rfl); (focus (simp (disch := first | omega | (intros; contradiction)) only [ac, bl, pZ, simprocAttr, bc, b9, if_pos, b6, bq, Int.toNat_natCast , Dd]; exact rfl)))
 refine aa (hK _ (wK [4] ?_));clear hK K;exact ak (an Tryz.results94 (.one (.plain _ _ rfl)) (by decide) (by rw [← Ko]))
theorem iw (n lo hi : Int) : DCalls Tryz.prog 92 [.c (.p (.int .i64 n)), .c (.p (.int .i64 lo)), .c (.p (.int .i64 hi))] (fun r => r = [.c (.p (.bool (inB n lo hi)))]) := ga fun w vs h1 h2 => by
 obtain ⟨u, v, t, rfl, g1, g2, g3⟩ := Qy h1 h2;rw [rn g1, rn g2, rn g3];exact (di n lo hi w).mono fun _ _ h => RetQ.v h
end
end Go.Proofs.YtolpiolnhgpjjaaGreat
