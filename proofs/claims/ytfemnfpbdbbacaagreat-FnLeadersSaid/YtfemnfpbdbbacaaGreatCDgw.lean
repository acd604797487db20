/- slices.Grow of nothing and slices.Concat of two lists of numbers, over data -/
import Derived.Test.YtfemnfpbdbbacaaGreatCJn32
import Derived.Test.YtfemnfpbdbbacaaGreatCJn27
import Derived.Test.YtfemnfpbdbbacaaGreatCDcv
import Derived.Test.YtfemnfpbdbbacaaGreatCJn29
import Derived.Test.YtfemnfpbdbbacaaGreatCJn8
import Derived.Test.YtfemnfpbdbbacaaGreatCDt
import Derived.Shelf.Spec.SlicesGrow
set_option linter.unusedSimpArgs false
set_option linter.unusedVariables false
namespace Go.Proofs.YtfemnfpbdbbacaaGreat
open Go Go.RowKit
theorem Sz (n : Nat) (h0 : 0 < n) (hn : n ≤ 1000000) (w : World) : Calls Tryz.prog 75 #[.slice none 0 0, .int .i64 n] w (Lh w []) := by
 obtain ⟨i0, hi, hz0, hz1, hz2⟩ := info_parts lu;refine (Any8.slices_Grow_grow Tryz.laysGrow_f75 i0 (.int .i64 0) hi hz0 (by omega) none 0 0 n [] w (Nat.le_refl 0) (by omega) (by rw [hz2]; omega) (by omega) (by rw [Nat.zero_mul]; rfl) (fun _ => rfl) (fun a ha => by cases ha)).mono ?_;rintro e w' ⟨rfl, rfl⟩;have hge := grownCap_ge w (0 + n) 0 3;have hle := grownCap_le_maxLen w (0 + n) 0 3 (by unfold maxLen; omega);obtain ⟨G, hG⟩ : ∃ G, G = grownCap w (0 + n) 0 3 := ⟨_, rfl⟩;show Lh w [] (.returned (.slice (some ⟨w.heap.size, 0, none⟩) 0 (grownCap w (0 + n) 0 3))) (w.drew.alloc (.cells (([] : List Value).toArray ++ Builtin.zeroCells (Value.int .i64 0).cells (0 + n - 0) ++ Builtin.zeroCells (Value.int .i64 0).cells (grownCap w (0 + n) 0 3 - (0 + n))) 3));rw [← hG] at hge hle ⊢
 have hsz : ∀ k, (Builtin.zeroCells (Value.int .i64 0).cells k).size = k := fun k => by
  simp [Builtin.zeroCells, Value.cells]
 refine ⟨_, rfl, ?_, ?_⟩
 ·unfold OwnI World.ownsRow;refine ⟨rfl, Or.inr ⟨w.heap.size, G, ([] : List Value).toArray ++ Builtin.zeroCells (Value.int .i64 0).cells (0 + n - 0) ++ Builtin.zeroCells (Value.int .i64 0).cells (G - (0 + n)), rfl, Nat.le_refl _, ?_, Nat.zero_le _, hle, ?_, rfl⟩⟩
  ·show (w.heap.push _)[w.heap.size]? = some _;simp
  ·simp only [Array.size_append, hsz];show 0 + (0 + n - 0) + (G - (0 + n)) = G * 1;omega
 ·exact (Below.refl _ w).drew.alloc (Nat.le_refl _) _
theorem Z3 (n : Nat) (h0 : 0 < n) (hn : n ≤ 1000000) : DCalls Tryz.prog 75 [.c (.p (.slice none 0 0)), .c (.p (.int .i64 n))] (fun r => r = [.own false [.sl true 3 1 (([] : List Int).map iC)]]) := ne (xs := []) fun w vs h1 h2 => by
 obtain ⟨u, v, rfl, g1, g2⟩ := I5 h1 h2;rw [I8 g2];obtain rfl : u = .slice none 0 0 := fm g1;exact Sz n h0 hn w
def lnS (L : List (List Int)) (k : Nat) : Nat := ((L.take k).map List.length).sum
def jnS (L : List (List Int)) (k : Nat) : List Int := (L.take k).flatten
theorem Hx {L : List (List Int)} {k : Nat} (h : k < L.length) : lnS L (k + 1) = lnS L k + (lg L k).length := by
 unfold lnS;rw [List.take_add_one, List.getElem?_eq_getElem h, List.map_append, List.sum_append, Bi h];simp
theorem Ss {L : List (List Int)} {k : Nat} (h : k < L.length) : jnS L (k + 1) = jnS L k ++ lg L k := by
 unfold jnS;rw [List.take_add_one, List.getElem?_eq_getElem h, List.flatten_append, Bi h];simp
theorem Vo (L : List (List Int)) (k : Nat) : (jnS L k).length = lnS L k := by
 unfold jnS lnS;rw [List.length_flatten]
def lsO (o2 : Bool) (t2 : TypeId) (xs : List Int) : List C := [.sl o2 t2 1 (xs.map iC)]
theorem L3 {o2 : Bool} {t2 : TypeId} {L : List (List Int)} {k : Nat} (h : k < L.length) : bu (L.map (lsO o2 t2)) k 0 = some (.sl o2 t2 1 ((lg L k).map iC)) := be.2 ⟨_, by rw [List.getElem?_map, List.getElem?_eq_getElem h]; rfl, by rw [Bi h]; rfl⟩
theorem Fl {o2 : Bool} {t2 : TypeId} {L : List (List Int)} {k : Nat} (h : k < L.length) : (L.map (lsO o2 t2)).getD k [] = [.sl o2 t2 1 ((lg L k).map iC)] := by
 rw [List.getD_eq_getElem?_getD, List.getElem?_map, List.getElem?_eq_getElem h, Bi h]; rfl
def zBDgw1 := PLift.up (And.intro a7 (And.intro b4 (And.intro jn (And.intro @if_pos.{1} (And.intro @bt (And.intro @bi (And.intro @L3 (And.intro @Fl @trivial))))))))
theorem Ze : type_of% zBDgw1.down := zBDgw1.down
set_option maxRecDepth 8000 in
set_option maxHeartbeats 0 in
theorem Ud (o o2 : Bool) (t t2 : TypeId) (L : List (List Int)) (h0 : 0 < lnS L L.length) (hL : L.length ≤ 1000) (hl : ∀ k, k ≤ L.length → lnS L k ≤ 1000000) : DCalls Tryz.prog 42 [.c (.sl o t 1 (L.map (lsO o2 t2)))] (fun r => r = [.own false [.sl true 3 1 ((jnS L L.length).map iC)]]) := by
 refine ao Tryz.func42 rfl (by rw [Tryz.ntmps42]; simp) fun w0 => ?_;rw [Tryz.ntmps42];have dX := Ze;simp only [b7, bf, Arg.av, br, ch, ints, ends];refine ab (dR fun K hK => ?_);(repeat refine eV ?_);refine aa (hK _ (wK [0] ?_));clear hK K;refine ab (dR fun K hK => ?_);(repeat refine eV ?_);refine aa (hK _ (wK [0, 3] ?_));clear hK K;refine ab ?_;refine ab (dR fun K hK => ?_);(repeat refine eV ?_);refine aa (hK _ (wK [0, 3, 9, 10, 11] ?_));clear hK K;refine ae ?_;refine au (X := Nat) (fun k => k ≤ L.length) (fun k => [(3, .c (.p (.int .i64 (lnS L k : Nat)))), (11, .c (.p (.int .i64 k)))]) (fun k => []) (fun k => L.length - k) 0 (Nat.zero_le _) (by first | rfl | (simp only [ac, pZ, simprocAttr, Int.natCast_zero, lnS] <;> rfl)) ?_;rintro k hk;intro E hE;simp only [ac, pZ, simprocAttr] at hE;subst hE;refine ab (dR fun K hK => ?_);(repeat refine eV ?_);refine aa (hK _ (wK [0, 3, 9, 10, 11, 12] ?_));clear hK K;refine ab (dI (fun hb => ?_) (fun hb => ?_))
 ·have hk1 : k < L.length := by simpa using hb
  have hls := Hx hk1;have hb1 := hl (k + 1) hk1;have hsc : ((lnS L k : Nat) : Int) + ((lg L k).length : Int) = ((lnS L (k + 1) : Nat) : Int) := by omega
  have hng : decide (((lnS L (k + 1) : Nat) : Int) < 0) = false := decide_eq_false (by omega);refine ah ?_;show DW _ _ _ _ _;refine ab (ae ?_);refine ab (dR fun K hK => ?_);(repeat refine eV ?_);refine aa (hK _ (wK [0, 3, 5, 9, 10, 11] ?_));clear hK K;have dX := And.intro dX (@hsc);refine ab (dR fun K hK => ?_);(repeat refine eV ?_);have dK := @hsc;refine aa (hK _ (az [0, 3, 9, 10, 11] ?_));clear hK K;have dX := And.intro dX (@hng);refine ab (dR fun K hK => ?_);(repeat refine eV ?_);have dK := @hng;refine aa (hK _ (az [0, 3, 9, 10, 11, 20] ?_));clear hK K;refine dI ?_ ?_<;>intro hb
  ·cases hb
  ·refine ah ?_;show DW _ _ _ _ _;refine dR fun K hK => ?_;(repeat refine eV ?_);have dK := @bp;refine aa (hK _ ?_);clear hK K;show ∃ x, _ ∧ _ ∧ Weak _ _;refine ⟨k + 1, ?_, ?_, a6 [0, 3, 9, 10, 11]⟩
   ·omega
   ·omega
 ·have hk2 : k = L.length := by
   have : ¬ k < L.length := by simpa using hb
   omega
  rw [hk2];have hbl := hl L.length (Nat.le_refl _);refine an ?_;refine ba [0, 3] (by simp only [ac, pZ, simprocAttr]; exact rfl) ?_;refine ab (dR fun K hK => ?_)
  repeat (apply b0; (focus exact rfl); (focus (simp (disch := first | omega | (intros; contradiction)) only [ac, bd, pZ, simprocAttr, a7, b4, jn, if_pos, bt, bi, L3, Fl , Mp]; exact rfl)))
  refine eh rfl ⟨rfl, _, rfl⟩ (by omega) (by first | exact Mp) (by simp (disch := first | omega | (intros; contradiction)) only [ac, bd, pZ, simprocAttr, a7, b4, jn, if_pos, bt, bi, L3, Fl , Mp] <;> exact rfl) (Z3 (lnS L L.length) h0 hbl) ?_;rintro _ rfl
  repeat (apply b0; (focus exact rfl); (focus (simp (disch := first | omega | (intros; contradiction)) only [ac, bd, pZ, simprocAttr, a7, b4, jn, if_pos, bt, bi, L3, Fl , Mp]; exact rfl)))
  refine aa (hK _ (wK [0, 6] ?_));clear hK K;refine ab ?_;refine ab (dR fun K hK => ?_);(repeat refine eV ?_);refine aa (hK _ (wK [6, 25, 26, 27] ?_));clear hK K;refine ae ?_;refine au (X := Nat) (fun k => k ≤ L.length) (fun k => [(27, .c (.p (.int .i64 k)))]) (fun k => [((6, 0), ⟨none, [.sl true 3 1 ((jnS L k).map iC)]⟩)]) (fun k => L.length - k) 0 (Nat.zero_le _) (by first | rfl | (simp only [ac, pZ, simprocAttr, Int.natCast_zero, jnS] <;> rfl)) ?_;rintro k hk;intro E hE;simp only [ac, pZ, simprocAttr] at hE;subst hE;have hjl := Vo L k;have hbk := hl k hk;refine ab (dR fun K hK => ?_);(repeat refine eV ?_);refine aa (hK _ (wK [6, 25, 26, 27, 28] ?_));clear hK K;refine ab (dI (fun hb => ?_) (fun hb => ?_))
  ·have hk1 : k < L.length := by simpa using hb
   have hjs := Ss hk1;have hls := Hx hk1;have hb1 := hl (k + 1) hk1;refine ah ?_;show DW _ _ _ _ _;refine ab (ae ?_);refine ab (dR fun K hK => ?_);(repeat refine eV ?_);refine aa (hK _ (wK [6, 8, 25, 26, 27] ?_));clear hK K;refine dR fun K hK => ?_;(repeat refine eV ?_);have dK := And.intro @Lc (Eq.symm hjs);refine aa (hK _ (az [6, 25, 26, 27] ?_));clear hK K;refine dR fun K hK => ?_;(repeat refine eV ?_);have dK := @bp;refine aa (hK _ ?_);clear hK K;show ∃ x, _ ∧ _ ∧ Weak _ _;refine ⟨k + 1, ?_, ?_, a6 [6, 25, 26, 27]⟩
   ·omega
   ·omega
  ·have hk2 : k = L.length := by
    have : ¬ k < L.length := by simpa using hb
    omega
   refine an ?_;refine ba [6] (by simp only [ac, pZ, simprocAttr]; exact rfl) ?_;refine ab (dR fun K hK => ?_);(repeat refine eV ?_);refine aa (hK _ (wK [2] ?_));clear hK K;exact aj (am Tryz.results42 (.one (.own _ _ _ _ rfl rfl (own1 (cm _ _)))) (by decide) (by rw [hk2]))
end Go.Proofs.YtfemnfpbdbbacaaGreat
