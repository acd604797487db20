/- A slice of numbers of one's own is sorted in place: over data. -/
import Derived.Test.YtolpiolnhgpjjaaGreatCJn23
import Derived.Test.YtolpiolnhgpjjaaGreatCJn28
import Derived.Test.YtolpiolnhgpjjaaGreatCDt
set_option linter.unusedSimpArgs false
set_option linter.unusedVariables false
namespace Go.Proofs.YtolpiolnhgpjjaaGreat
open Go Go.RowKit Go.Sort
section
variable {P : Program} {w0 : Base} {e : Env} {a : Act} {w : World} {val : Val} {S : Nat → Prop}
def zb (ys xs : List Int) (m : Nat) : List Int := ys.take m ++ xs.drop m
theorem Pc {ys xs : List Int} (hl : ys.length = xs.length) (m : Nat) : (zb ys xs m).length = xs.length := by
 simp [zb]; omega
theorem Pb {ys xs : List Int} {m : Nat} (hl : ys.length = xs.length) (hm : m < ys.length) : (zb ys xs m).set m (gi ys m) = zb ys xs (m + 1) := by
 unfold zb;rw [List.take_succ_eq_append_getElem hm, ← bm hm, List.drop_eq_getElem_cons (show m < xs.length by omega), List.set_append_right _ _ (by simp; omega)];have : m - (ys.take m).length = 0 := by simp; omega
 rw [this, List.set_cons_zero, List.append_assoc]; rfl
theorem Am {ys : List Int} {o m : Nat} {cur : Array Value} (hm : m < ys.length) (hs : o + ys.length ≤ cur.size) : (putCells (Value.int .i64) o (ys.take m).toArray cur).setIfInBounds (o + (m * 1 + 0)) (.int .i64 (gi ys m)) = putCells (Value.int .i64) o (ys.take (m + 1)).toArray cur := by
 have e1 : (ys.take m).length = m := by simp; omega
 have e2 : (ys.take (m + 1)).length = m + 1 := by simp; omega
 apply Array.ext
 ·simp [putCells]
 ·intro i h1 h2;have hi : i < cur.size := by simpa [putCells] using h2
  rw [Array.getElem_setIfInBounds (by simpa [putCells] using hi)];simp only [putCells, Array.getElem_mapIdx, List.size_toArray, e1, e2]
  by_cases hio : o + (m * 1 + 0) = i
  ·subst hio;rw [if_pos rfl, if_pos (by omega), show o + (m * 1 + 0) - o = m by omega]
   have h3 : (List.take (m + 1) ys).toArray[m]! = gi ys m := by
    have h4 : m < (List.take (m + 1) ys).toArray.size := by simp; omega
    rw [getElem!_pos (List.take (m + 1) ys).toArray m h4, bm hm]; simp
   rw [h3]
  ·rw [if_neg hio]
   by_cases h3 : o ≤ i ∧ i < o + m
   ·rw [if_pos h3, if_pos ⟨h3.1, by omega⟩];have h4 : i - o < (List.take m ys).toArray.size := by simp; omega
    have h5 : i - o < (List.take (m + 1) ys).toArray.size := by simp; omega
    rw [getElem!_pos (List.take m ys).toArray (i - o) h4, getElem!_pos (List.take (m + 1) ys).toArray (i - o) h5]; simp
   ·rw [if_neg h3, if_neg (by omega)]
theorem x7 {r t b o cap : Nat} {xs ys : List Int} {cur : Array Value} (h : StV w0 e a w val S) (hc : e.con (r, 0) = some ⟨none, [.sl true t 1 (xs.map iC)]⟩) (hv : val (r, 0) [(0, 0)] = .slice (some ⟨b, o, none⟩) xs.length cap) (hb : w.heap[b]? = some (.cells cur t (0, 0))) (hsz : o + xs.length ≤ cur.size) (hl : ys.length = xs.length) : ∀ m, m ≤ ys.length → ∃ e' w' val', StV w0 e' a w' val' S ∧ e'.n = e.n ∧ e'.s = e.s ∧ (∀ key, key ≠ (r, 0) → e'.con key = e.con key) ∧ e'.con (r, 0) = some ⟨none, [.sl true t 1 ((zb ys xs m).map iC)]⟩ ∧ e'.gen = e.gen ∧ (∀ x, x ≠ r → e'.dirty x = e.dirty x) ∧ (∀ d ∈ e'.dirty r, d ∈ e.dirty r ∨ [(0, 0)] <+: d) ∧ val' (r, 0) [(0, 0)] = .slice (some ⟨b, o, none⟩) xs.length cap ∧ w'.heap.size = w.heap.size ∧ (∀ k, k ≠ b → w'.heap[k]? = w.heap[k]?) ∧ w'.heap[b]? = some (.cells (putCells (Value.int .i64) o (ys.take m).toArray cur) t (0, 0)) ∧ w'.os = w.os ∧ w'.tape = w.tape ∧ w'.output = w.output
 | 0, _ => ⟨e, w, val, h, rfl, rfl, fun _ _ => rfl, by rw [hc]; simp [zb], rfl, fun _ _ => rfl, fun _ hd => .inl hd, hv, rfl, fun _ _ => rfl, by
  rw [hb]
  have : putCells (Value.int .i64) o (ys.take 0).toArray cur = cur := by
   apply Array.ext
   ·simp [putCells]
   ·intro i h1 h2;simp only [putCells, Array.getElem_mapIdx, List.take_zero, List.size_toArray, List.length_nil];rw [if_neg (by omega)]
  rw [this], rfl, rfl, rfl⟩
 | m + 1, hm => by
  obtain ⟨e1, w1, val1, g1, g2, g3, g4, g5, g6, g7, g8, g9, g10, g11, g12, g13, g14, g15⟩ := x7 h hc hv hb hsz hl m (by omega);have hml := Pc hl m
  have hlook : look [C.sl true t 1 ((zb ys xs m).map iC)] ([(0, 0)] ++ [(m, 0)]) = some (.p (.int .i64 (gi (zb ys xs m) m))) :=
   (et (by simp)).2 ⟨t, 1, _, cf _ 0, b6 (by omega)⟩
  have g16 := g1.putC (r := r) (p' := [(0, 0)]) (j := m) (q := 0) (k := 1) (b := b) (o := o) (y := .p (.int .i64 (gi ys m))) (u := .int .i64 (gi ys m)) g5 hlook (.inr ⟨by simp, ⟨_, _, g9⟩, fun t' k' rows hh => by rw [cf] at hh; cases hh; rfl⟩) rfl (RO.p _);refine ⟨_, _, _, g16, g2, g3, fun key hk => ?_, ?_, g6, fun x hx => ?_, fun d hd => ?_, ?_, ?_, fun k hk => ?_, ?_, ?_, ?_, ?_⟩
  ·simp [Env.put, hk, g4 key hk]
  ·simp only [Env.put, if_true, g5, Option.map_some, puts, List.cons_append, List.nil_append, List.modify_zero_cons, C.put, ug, Pb hl (show m < ys.length by omega)]
  ·simp [Env.put, hx, g7 x hx]
  ·simp only [Env.put, if_true] at hd
   rcases List.mem_cons.1 hd with rfl | hd
   ·exact .inr ⟨[(m, 0)], rfl⟩
   ·exact g8 d hd
  ·rw [cr (by simp)]; exact g9
  ·rw [← g10]; simp [World.setCell]
  ·rw [← g11 k hk];exact Below.heap_setCell w1 ⟨b, o + (m * 1 + 0), none⟩ _ k hk
  ·have : (w1.setCell ⟨b, o + (m * 1 + 0), none⟩ (.int .i64 (gi ys m))).heap[b]? = some (.cells ((putCells (Value.int .i64) o (ys.take m).toArray cur).setIfInBounds (o + (m * 1 + 0)) (.int .i64 (gi ys m))) t (0, 0)) := by
    simp [World.setCell, Array.getElem?_modify, g12]
   rw [this, Am (by omega) (by omega)]
  ·rw [← g13]; rfl
  ·rw [← g14]; rfl
  ·rw [← g15]; rfl
end
set_option maxHeartbeats 1000000 in
theorem Dp {w0 : Base} {e : Env} {id r s d : Nat} {t : TypeId} {tys : Array TypeId} {o1 o2 : Oper} {xs : List Int} {Q : Exit → Env → Prop} (h1 : o1.op = .move (.tmp r)) (h1d : o1.dst = some s) (h1g : o1.guard = none) (h2 : o2.op = .call { callee := .value (.func 96), args := #[.tmp s], argTypes := tys }) (h2d : o2.dst = some d) (h2g : o2.guard = none)
 (hr : e.s r = .own false 1) (hc : e.con (r, 0) = some ⟨none, [.sl true t 1 (xs.map iC)]⟩) (hsn : s < e.n) (hdn : d < e.n) (hrs : r ≠ s) (hrd : r ≠ d) (hp : 0 < xs.length) (hl : xs.length ≤ 2097152)
 (hk : Q .normal (((e.set s .dead noCon).set d .dead noCon).put r [(0, 0)] (.sl true t 1 ((sorted xs).map iC)))) : DW Tryz.prog w0 (.region id #[o1, o2] false) Q e := by
 intro a w ⟨val, S, hst⟩;refine wp_region ?_;rw [show List.range (#[o1, o2] : Array Oper).size = [0, 1] from rfl, wpOps_cons];unfold wpOp;have e0 : (#[o1, o2] : Array Oper)[0]? = some o1 := rfl;have e1 : (#[o1, o2] : Array Oper)[1]? = some o2 := rfl;rw [e0];dsimp only;rw [if_pos (by simp [Region.wanted, h1g])];left;refine df (v := a.tmps.getD r undef) (by unfold execOp; rw [h1]; rfl) ?_;rw [wpOps_cons];unfold wpOp;rw [e1];dsimp only;rw [if_pos (by simp [Region.wanted, h2g])];left;unfold Oper.wp;rw [j4 h2 Xl, Oper.upon_enter];have hsl := hst.slot r;rw [hr] at hsl;obtain ⟨-, -, hv⟩ := hsl;have hnode := hst.mem.node (r, 0) _ [(0, 0)] _ hc (cf _ 0);obtain ⟨-, -, ⟨hnil, -⟩ | ⟨b, o, cap, cur, q1, q2, q3, q4, q5, q6⟩⟩ := hnode
 ·have := congrArg List.length hnil;simp at this;rw [this] at hp; simp at hp
 rw [List.length_map] at q1 q3;have hst1 := (hst.setP (d := s) (av := .dead) (v := a.tmps.getD r undef) hsn (Below.refl _ _) trivial);have hst2 := (hst1.setP (d := d) (av := .dead) (v := .tuple #[]) (w' := w) hdn (Below.refl _ _) trivial);have hsz : a.tmps.size = e.n := hst.sz
 have hargs : (#[Operand.tmp s].map (a.put (some s) (a.tmps.getD r undef)).eval) = #[.slice (some ⟨b, o, none⟩) xs.length cap] := by
  have : (a.put (some s) (a.tmps.getD r undef)).eval (.tmp s) = .slice (some ⟨b, o, none⟩) xs.length cap := by
   show (a.put (some s) (a.tmps.getD r undef)).tmps.getD s undef = _;rw [← q1, ← hv];simp [Act.put, hsz, hsn]
  simp only [List.map_toArray, List.map_cons, List.map_nil, this]
 rw [h1d, hargs]
 have hcells : ∀ j, j < xs.length → cur[o + j]? = some (.int .i64 (gi xs j)) := fun j hj => by
  have h3 := q6 j 0 _ (b6 hj);rw [show o + (j * 1 + 0) = o + j by omega] at h3;rw [h3];have h4 := hst.mem.node (r, 0) _ ([(0, 0)] ++ [(j, 0)]) (.p (.int .i64 (gi xs j))) hc ((et (by simp)).2 ⟨t, 1, _, cf _ 0, b6 hj⟩);exact congrArg some h4
 have hblk : b < w.heap.size := (Array.getElem?_eq_some_iff.1 q2).1
 have hH : Holds (Value.int .i64) w b o xs.toArray := fun j hj => by
  have hj' : j < xs.length := by simpa using hj
  refine ⟨?_, by simp [World.frozen?, q2]⟩;simp only [World.cell?, q2];simp only [Option.isSome_none, Bool.false_eq_true, if_false];rw [hcells j hj', bm hj'];simp [hj']
 refine (Tryz.slices_Sort_int b o cap xs w hH hblk (by omega)).mono ?_;rintro e' w' ⟨rfl, m, os, rfl⟩;show ∃ e', _ ∧ _;rw [h2d]
 have hce : ((e.set s .dead noCon).set d .dead noCon).con (r, 0) = some ⟨none, [.sl true t 1 (xs.map iC)]⟩ := by
  rw [← hc]; simp [Env.set, hrs, hrd]
 obtain ⟨E, w1, val1, g1, g2, g3, g4, g5, g6, g7, g8, g9, g10, g11, g12, g13, g14, g15⟩ := x7 (ys := sorted xs) hst2 hce q1 q2 (by omega) (dm xs) _ (Nat.le_refl _)
 have hbel : Below w1.heap.size w1 (grow (putRow (Value.int .i64) (Sort.ahead w m) b o (sorted xs).toArray) os) := by
  refine ⟨g13.symm, g14.symm, g15.symm, by rw [g10]; simp [grow, putRow, mapBlock, Sort.ahead], fun k hk => ?_⟩;rw [heap_grow_old _ _ (by rw [g10] at hk; simpa [putRow, mapBlock, Sort.ahead] using hk)]
  by_cases hkb : k = b
  ·subst hkb;rw [g12, List.take_length];simp [putRow, mapBlock, Sort.ahead, Array.getElem?_modify, q2, onCells]
  ·rw [g11 k hkb];simp [putRow, mapBlock, Sort.ahead, Array.getElem?_modify, Ne.symm hkb]
 refine ⟨_, hk, val1, S, ?_⟩;refine StV.less (e := E) (g1.below hbel) g2.symm g3.symm ?_ ?_ ?_
 ·funext key
  by_cases hkey : key = (r, 0)
  ·subst hkey;rw [g5]
   have : zb (sorted xs) xs (sorted xs).length = sorted xs := by
    unfold zb; rw [List.take_length, dm, List.drop_length, List.append_nil]
   rw [this];simp only [Env.put, if_true, hce, Option.map_some, puts, List.modify_zero_cons, C.put]
  ·rw [g4 key hkey]; simp [Env.put, hkey]
 ·exact g6.symm
 ·rintro x g p ⟨hx1, hx2⟩;refine ⟨by rw [g6]; exact hx1, fun dd hd => ?_⟩
  by_cases hxr : x = r
  ·subst hxr
   rcases g8 dd hd with h3 | h3
   ·exact hx2 dd (by simp [Env.put, h3])
   ·intro h4;exact hx2 [(0, 0)] (by simp [Env.put]) (h3.trans h4)
  ·rw [g7 x hxr] at hd;exact hx2 dd (by simp [Env.put, hxr, hd])
end Go.Proofs.YtolpiolnhgpjjaaGreat
