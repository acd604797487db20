/- Parts of the proof. -/
import Derived.Test.YtolpiolnhgpjjaaGreatCJn27
import Derived.Test.YtolpiolnhgpjjaaGreatCJn30
import Derived.Test.YtolpiolnhgpjjaaGreatCDt
import Derived.Test.YtolpiolnhgpjjaaGreatCJn24
import Derived.Test.YtolpiolnhgpjjaaGreatCJn25
set_option linter.unusedSimpArgs false
set_option linter.unusedVariables false
namespace Go.Proofs.YtolpiolnhgpjjaaGreat
section
open Go Go.RowKit Go.Sort
section
variable {P : Program} {w0 : Base} {e : Env} {a : Act} {w : World} {val : Val} {S : Nat → Prop}
def xx (ys xs : List Int) (m : Nat) : List Int := ys.take m ++ xs.drop m
theorem Re {ys xs : List Int} (hl : ys.length = xs.length) (m : Nat) : (xx ys xs m).length = xs.length := by
 simp [xx]; omega
theorem Rd {ys xs : List Int} {m : Nat} (hl : ys.length = xs.length) (hm : m < ys.length) : (xx ys xs m).set m (gi ys m) = xx ys xs (m + 1) := by
 unfold xx;rw [List.take_succ_eq_append_getElem hm, ← bo hm, List.drop_eq_getElem_cons (show m < xs.length by omega), List.set_append_right _ _ (by simp; omega)];have : m - (ys.take m).length = 0 := by simp; omega
 rw [this, List.set_cons_zero, List.append_assoc]; rfl
theorem C6 {ys : List Int} {o m : Nat} {cur : Array Value} (hm : m < ys.length) (hs : o + ys.length ≤ cur.size) : (putCells (Value.int .i64) o (ys.take m).toArray cur).setIfInBounds (o + (m * 1 + 0)) (.int .i64 (gi ys m)) = putCells (Value.int .i64) o (ys.take (m + 1)).toArray cur := by
 have e1 : (ys.take m).length = m := by simp; omega
 have e2 : (ys.take (m + 1)).length = m + 1 := by simp; omega
 apply Array.ext
 ·simp [putCells]
 ·intro i h1 h2;have hi : i < cur.size := by simpa [putCells] using h2
  rw [Array.getElem_setIfInBounds (by simpa [putCells] using hi)];simp only [putCells, Array.getElem_mapIdx, List.size_toArray, e1, e2]
  by_cases hio : o + (m * 1 + 0) = i
  ·subst hio;rw [if_pos rfl, if_pos (by omega), show o + (m * 1 + 0) - o = m by omega]
   have h3 : (List.take (m + 1) ys).toArray[m]! = gi ys m := by
    have h4 : m < (List.take (m + 1) ys).toArray.size := by simp; omega
    rw [getElem!_pos (List.take (m + 1) ys).toArray m h4, bo hm]; simp
   rw [h3]
  ·rw [if_neg hio]
   by_cases h3 : o ≤ i ∧ i < o + m
   ·rw [if_pos h3, if_pos ⟨h3.1, by omega⟩];have h4 : i - o < (List.take m ys).toArray.size := by simp; omega
    have h5 : i - o < (List.take (m + 1) ys).toArray.size := by simp; omega
    rw [getElem!_pos (List.take m ys).toArray (i - o) h4, getElem!_pos (List.take (m + 1) ys).toArray (i - o) h5]; simp
   ·rw [if_neg h3, if_neg (by omega)]
theorem ua {r t b o cap : Nat} {xs ys : List Int} {cur : Array Value} (h : StV w0 e a w val S) (hc : e.con (r, 0) = some ⟨none, [.sl true t 1 (xs.map iC)]⟩) (hv : val (r, 0) [(0, 0)] = .slice (some ⟨b, o, none⟩) xs.length cap) (hb : w.heap[b]? = some (.cells cur t (0, 0))) (hsz : o + xs.length ≤ cur.size) (hl : ys.length = xs.length) : ∀ m, m ≤ ys.length → ∃ e' w' val', StV w0 e' a w' val' S ∧ e'.n = e.n ∧ e'.s = e.s ∧ (∀ key, key ≠ (r, 0) → e'.con key = e.con key) ∧ e'.con (r, 0) = some ⟨none, [.sl true t 1 ((xx ys xs m).map iC)]⟩ ∧ e'.gen = e.gen ∧ (∀ x, x ≠ r → e'.dirty x = e.dirty x) ∧ (∀ d ∈ e'.dirty r, d ∈ e.dirty r ∨ [(0, 0)] <+: d) ∧ val' (r, 0) [(0, 0)] = .slice (some ⟨b, o, none⟩) xs.length cap ∧ w'.heap.size = w.heap.size ∧ (∀ k, k ≠ b → w'.heap[k]? = w.heap[k]?) ∧ w'.heap[b]? = some (.cells (putCells (Value.int .i64) o (ys.take m).toArray cur) t (0, 0)) ∧ w'.os = w.os ∧ w'.tape = w.tape ∧ w'.output = w.output
 | 0, _ => ⟨e, w, val, h, rfl, rfl, fun _ _ => rfl, by rw [hc]; simp [xx], rfl, fun _ _ => rfl, fun _ hd => .inl hd, hv, rfl, fun _ _ => rfl, by
  rw [hb]
  have : putCells (Value.int .i64) o (ys.take 0).toArray cur = cur := by
   apply Array.ext
   ·simp [putCells]
   ·intro i h1 h2;simp only [putCells, Array.getElem_mapIdx, List.take_zero, List.size_toArray, List.length_nil];rw [if_neg (by omega)]
  rw [this], rfl, rfl, rfl⟩
 | m + 1, hm => by
  obtain ⟨e1, w1, val1, g1, g2, g3, g4, g5, g6, g7, g8, g9, g10, g11, g12, g13, g14, g15⟩ := ua h hc hv hb hsz hl m (by omega);have hml := Re hl m
  have hlook : look [C.sl true t 1 ((xx ys xs m).map iC)] ([(0, 0)] ++ [(m, 0)]) = some (.p (.int .i64 (gi (xx ys xs m) m))) :=
   (ft (by simp)).2 ⟨t, 1, _, db _ 0, be (by omega)⟩
  have g16 := g1.putC (r := r) (p' := [(0, 0)]) (j := m) (q := 0) (k := 1) (b := b) (o := o) (y := .p (.int .i64 (gi ys m))) (u := .int .i64 (gi ys m)) g5 hlook (.inr ⟨by simp, ⟨_, _, g9⟩, fun t' k' rows hh => by rw [db] at hh; cases hh; rfl⟩) rfl (RO.p _);refine ⟨_, _, _, g16, g2, g3, fun key hk => ?_, ?_, g6, fun x hx => ?_, fun d hd => ?_, ?_, ?_, fun k hk => ?_, ?_, ?_, ?_, ?_⟩
  ·simp [Env.put, hk, g4 key hk]
  ·simp only [Env.put, if_true, g5, Option.map_some, puts, List.cons_append, List.nil_append, List.modify_zero_cons, C.put, C5, Rd hl (show m < ys.length by omega)]
  ·simp [Env.put, hx, g7 x hx]
  ·simp only [Env.put, if_true] at hd
   rcases List.mem_cons.1 hd with rfl | hd
   ·exact .inr ⟨[(m, 0)], rfl⟩
   ·exact g8 d hd
  ·rw [di (by simp)]; exact g9
  ·rw [← g10]; simp [World.setCell]
  ·rw [← g11 k hk];exact Below.heap_setCell w1 ⟨b, o + (m * 1 + 0), none⟩ _ k hk
  ·have : (w1.setCell ⟨b, o + (m * 1 + 0), none⟩ (.int .i64 (gi ys m))).heap[b]? = some (.cells ((putCells (Value.int .i64) o (ys.take m).toArray cur).setIfInBounds (o + (m * 1 + 0)) (.int .i64 (gi ys m))) t (0, 0)) := by
    simp [World.setCell, Array.getElem?_modify, g12]
   rw [this, C6 (by omega) (by omega)]
  ·rw [← g13]; rfl
  ·rw [← g14]; rfl
  ·rw [← g15]; rfl
end
set_option maxHeartbeats 1000000 in
theorem M8 {w0 : Base} {e : Env} {id r s d : Nat} {t : TypeId} {tys : Array TypeId} {o1 o2 : Oper} {xs : List Int} {Q : Exit → Env → Prop} (h1 : o1.op = .move (.tmp r)) (h1d : o1.dst = some s) (h1g : o1.guard = none) (h2 : o2.op = .call { callee := .value (.func 96), args := #[.tmp s], argTypes := tys }) (h2d : o2.dst = some d) (h2g : o2.guard = none)
 (hr : e.s r = .own false 1) (hc : e.con (r, 0) = some ⟨none, [.sl true t 1 (xs.map iC)]⟩) (hsn : s < e.n) (hdn : d < e.n) (hrs : r ≠ s) (hrd : r ≠ d) (hp : 0 < xs.length) (hl : xs.length ≤ 2097152)
 (hk : Q .normal (((e.set s .dead noCon).set d .dead noCon).put r [(0, 0)] (.sl true t 1 ((bc xs).map iC)))) : DW Tryz.prog w0 (.region id #[o1, o2] false) Q e := by
 intro a w ⟨val, S, hst⟩;refine wp_region ?_;rw [show List.range (#[o1, o2] : Array Oper).size = [0, 1] from rfl, wpOps_cons];unfold wpOp;have e0 : (#[o1, o2] : Array Oper)[0]? = some o1 := rfl;have e1 : (#[o1, o2] : Array Oper)[1]? = some o2 := rfl;rw [e0];dsimp only;rw [if_pos (by simp [Region.wanted, h1g])];left;refine cw (v := a.tmps.getD r undef) (by unfold execOp; rw [h1]; rfl) ?_;rw [wpOps_cons];unfold wpOp;rw [e1];dsimp only;rw [if_pos (by simp [Region.wanted, h2g])];left;unfold Oper.wp;rw [jd h2 wu, Oper.upon_enter];have hsl := hst.slot r;rw [hr] at hsl;obtain ⟨-, -, hv⟩ := hsl;have hnode := hst.mem.node (r, 0) _ [(0, 0)] _ hc (db _ 0);obtain ⟨-, -, ⟨hnil, -⟩ | ⟨b, o, cap, cur, q1, q2, q3, q4, q5, q6⟩⟩ := hnode
 ·have := congrArg List.length hnil;simp at this;rw [this] at hp; simp at hp
 rw [List.length_map] at q1 q3;have hst1 := (hst.setP (d := s) (av := .dead) (v := a.tmps.getD r undef) hsn (Below.refl _ _) trivial);have hst2 := (hst1.setP (d := d) (av := .dead) (v := .tuple #[]) (w' := w) hdn (Below.refl _ _) trivial);have hsz : a.tmps.size = e.n := hst.sz
 have hargs : (#[Operand.tmp s].map (a.put (some s) (a.tmps.getD r undef)).eval) = #[.slice (some ⟨b, o, none⟩) xs.length cap] := by
  have : (a.put (some s) (a.tmps.getD r undef)).eval (.tmp s) = .slice (some ⟨b, o, none⟩) xs.length cap := by
   show (a.put (some s) (a.tmps.getD r undef)).tmps.getD s undef = _;rw [← q1, ← hv];simp [Act.put, hsz, hsn]
  simp only [List.map_toArray, List.map_cons, List.map_nil, this]
 rw [h1d, hargs]
 have hcells : ∀ j, j < xs.length → cur[o + j]? = some (.int .i64 (gi xs j)) := fun j hj => by
  have h3 := q6 j 0 _ (be hj);rw [show o + (j * 1 + 0) = o + j by omega] at h3;rw [h3];have h4 := hst.mem.node (r, 0) _ ([(0, 0)] ++ [(j, 0)]) (.p (.int .i64 (gi xs j))) hc ((ft (by simp)).2 ⟨t, 1, _, db _ 0, be hj⟩);exact congrArg some h4
 have hblk : b < w.heap.size := (Array.getElem?_eq_some_iff.1 q2).1
 have hH : Holds (Value.int .i64) w b o xs.toArray := fun j hj => by
  have hj' : j < xs.length := by simpa using hj
  refine ⟨?_, by simp [World.frozen?, q2]⟩;simp only [World.cell?, q2];simp only [Option.isSome_none, Bool.false_eq_true, if_false];rw [hcells j hj', bo hj'];simp [hj']
 refine (Tryz.slices_Sort_int b o cap xs w hH hblk (by omega)).mono ?_;rintro e' w' ⟨rfl, m, os, rfl⟩;show ∃ e', _ ∧ _;rw [h2d]
 have hce : ((e.set s .dead noCon).set d .dead noCon).con (r, 0) = some ⟨none, [.sl true t 1 (xs.map iC)]⟩ := by
  rw [← hc]; simp [Env.set, hrs, hrd]
 obtain ⟨E, w1, val1, g1, g2, g3, g4, g5, g6, g7, g8, g9, g10, g11, g12, g13, g14, g15⟩ := ua (ys := bc xs) hst2 hce q1 q2 (by omega) (dn xs) _ (Nat.le_refl _)
 have hbel : Below w1.heap.size w1 (grow (putRow (Value.int .i64) (Sort.ahead w m) b o (bc xs).toArray) os) := by
  refine ⟨g13.symm, g14.symm, g15.symm, by rw [g10]; simp [grow, putRow, mapBlock, Sort.ahead], fun k hk => ?_⟩;rw [heap_grow_old _ _ (by rw [g10] at hk; simpa [putRow, mapBlock, Sort.ahead] using hk)]
  by_cases hkb : k = b
  ·subst hkb;rw [g12, List.take_length];simp [putRow, mapBlock, Sort.ahead, Array.getElem?_modify, q2, onCells]
  ·rw [g11 k hkb];simp [putRow, mapBlock, Sort.ahead, Array.getElem?_modify, Ne.symm hkb]
 refine ⟨_, hk, val1, S, ?_⟩;refine StV.less (e := E) (g1.below hbel) g2.symm g3.symm ?_ ?_ ?_
 ·funext key
  by_cases hkey : key = (r, 0)
  ·subst hkey;rw [g5]
   have : xx (bc xs) xs (bc xs).length = bc xs := by
    unfold xx; rw [List.take_length, dn, List.drop_length, List.append_nil]
   rw [this];simp only [Env.put, if_true, hce, Option.map_some, puts, List.modify_zero_cons, C.put]
  ·rw [g4 key hkey]; simp [Env.put, hkey]
 ·exact g6.symm
 ·rintro x g p ⟨hx1, hx2⟩;refine ⟨by rw [g6]; exact hx1, fun dd hd => ?_⟩
  by_cases hxr : x = r
  ·subst hxr
   rcases g8 dd hd with h3 | h3
   ·exact hx2 dd (by simp [Env.put, h3])
   ·intro h4;exact hx2 [(0, 0)] (by simp [Env.put]) (h3.trans h4)
  ·rw [g7 x hxr] at hd;exact hx2 dd (by simp [Env.put, hxr, hd])
end
section
set_option maxHeartbeats 0
set_option maxRecDepth 8000
open Go Go.RowKit
def zBDsz1 := PLift.up (And.intro aq (And.intro bh (And.intro @if_pos.{1} (And.intro @be @trivial))))
theorem Sc : type_of% zBDsz1.down := zBDsz1.down
theorem Kr (o : Bool) (t : TypeId) : DCalls Tryz.prog 197 [.c (.sl o t 1 []), .c (.p (.int .i64 0)), .c (.p (.int .i64 0))] (fun r => r = []) := by
 have h1 : decide ((1 : Int) < 0) = false := by decide
 refine au Tryz.func197 rfl (by rw [Tryz.ntmps197]; simp) fun w0 => ?_;rw [Tryz.ntmps197];have dX := Sc;simp only [ce, bm, Arg.av, bw, cm, ints, ends];refine ab (dR fun K hK => ?_);(repeat refine eV ?_);have dK := @Int.zero_add;refine aa (hK _ (a8 [0, 1, 2, 6] ?_));clear hK K;refine af ?_;refine ba (X := Nat) (fun k => True) (fun k => [(6, .c (.p (.int .i64 1)))]) (fun k => []) (fun k => 0) 0 trivial (by first | rfl | (simp only [ac, pZ, simprocAttr, Int.natCast_zero] <;> rfl)) ?_;rintro k -;intro E hE;simp only [ac, pZ, simprocAttr] at hE;subst hE;refine ab ?_;have dX := And.intro dX (@h1);refine ab (dR fun K hK => ?_);(repeat refine eV ?_);have dK := @h1;refine aa (hK _ (a8 [0, 1, 2, 6, 12] ?_));clear hK K;refine dI ?_ ?_<;>intro hb
 ·cases hb
 ·refine ay ?_;exact al Tryz.results197 .nil (by decide) rfl
theorem J8 (o : Bool) (t : TypeId) (lim : Int) : DCalls Tryz.prog 167 [.c (.sl o t 1 []), .c (.p (.int .i64 0)), .c (.p (.int .i64 0)), .c (.p (.int .i64 lim))] (fun r => r = []) := by
 have h1 : decide ((0 : Int) ≤ 12) = true := by decide
 refine au Tryz.func167 rfl (by rw [Tryz.ntmps167]; simp) fun w0 => ?_;rw [Tryz.ntmps167];have dX := Sc;simp only [ce, bm, Arg.av, bw, cm, ints, ends];refine ab (dR fun K hK => ?_);(repeat refine eV ?_);refine aa (hK _ (wK [0, 1, 2, 3, 8] ?_));clear hK K;refine ab (dR fun K hK => ?_);(repeat refine eV ?_);refine aa (hK _ (wK [0, 1, 2, 3, 8, 9] ?_));clear hK K;refine af ?_;refine ba (X := Nat) (fun k => True) (fun k => []) (fun k => []) (fun k => 0) 0 trivial (by first | rfl | (simp only [ac, pZ, simprocAttr, Int.natCast_zero] <;> rfl)) ?_;rintro k -;intro E hE;simp only [ac, pZ, simprocAttr] at hE;subst hE;refine af ?_;refine ab (dR fun K hK => ?_);(repeat refine eV ?_);have dK := @Int.sub_zero;refine aa (hK _ (a8 [0, 1, 2, 3, 8, 9, 10] ?_));clear hK K;refine ab ?_;have dX := And.intro dX (@h1);refine ab (dR fun K hK => ?_);(repeat refine eV ?_);have dK := @h1;refine aa (hK _ (a8 [0, 1, 2, 3, 8, 9, 10, 23] ?_));clear hK K;refine dI ?_ ?_<;>intro hb
 ·refine ab (dR fun K hK => ?_);(repeat refine eV ?_);refine cL rfl ⟨rfl, _, rfl⟩ (by omega) (by first | exact Wb) (Kr o t) ?_;rintro _ rfl;(repeat refine eV ?_);refine aa (hK _ (wK [] ?_));clear hK K;exact aj (al Tryz.results167 .nil (by decide) rfl)
 ·cases hb
theorem DCalls.ret0 {P : Program} {f : FuncId} {ags : List Arg} {vs : Array Value} {w : World} (h : DCalls P f ags fun r => r = []) (ha : Gz w ags vs.toList) : Calls P f vs w (oo w (.tuple #[])) := by
 refine (h.at_ ha).mono ?_;rintro e w' ⟨r, v, val, S, rfl, rfl, hr⟩;obtain ⟨ws, rfl, hsz, hp⟩ := hr.sv;have : ws = #[] := Array.eq_empty_of_size_eq_zero hsz;subst this;exact ⟨rfl, hr.below⟩
set_option maxRecDepth 100000 in
set_option maxHeartbeats 4000000 in
theorem E0 (A : Option Addr) (c : Nat) (w : World) (hc : c ≤ maxLen) : Calls Tryz.prog 96 #[.slice A 0 c] w (oo w (.tuple #[])) := by
 go_enter Tryz.func96, Tryz.ntmps96
 have hp : ∀ lim W, Calls Tryz.prog 167 #[.slice A 0 c, .int .i64 0, .int .i64 0, .int .i64 lim] W (oo W (.tuple #[])) := fun lim W => (J8 false 0 lim).ret0 ⟨RO.nil _ _ _ _ _ hc, RO.p _, RO.p _, RO.p _, trivial⟩
 go_wp2_with fail
 refine (Tryz.bits_Len 0 w (by omega) (by omega)).mono ?_;rintro e w1 ⟨rfl, rfl⟩
 go_wp2_with fail
 refine (hp _ _).mono ?_;rintro e w2 ⟨rfl, hb⟩
 go_wp2_with fail
 go_end0
 exact ⟨rfl, hb⟩
theorem Nk (o : Bool) (t : TypeId) : DCalls Tryz.prog 96 [.c (.sl o t 1 [])] (fun r => r = [.c (.p (.tuple #[]))]) := iv fun w vs h1 h2 => by
 obtain ⟨u, rfl, g1⟩ := Ey h1 h2;have g2 : RO w (fun _ => True) (.sl o t 1 []) u := g1
 cases g2 with
 | nil _ _ _ A cap hc => exact E0 A cap w hc
 | sl _ _ _ _ b off cap us h1 h2 h3 => exact E0 _ cap w h3
end
end Go.Proofs.YtolpiolnhgpjjaaGreat
