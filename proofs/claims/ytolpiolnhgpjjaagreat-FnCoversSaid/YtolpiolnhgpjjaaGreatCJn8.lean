/- Parts of the proof. -/
import Derived.Test.YtolpiolnhgpjjaaGreatChecked
import Derived.Test.YtolpiolnhgpjjaaGreatCJn6
set_option linter.unusedSimpArgs false
set_option linter.unusedVariables false
namespace Go.Proofs.YtolpiolnhgpjjaaGreat
section
open Go.RowKit
theorem dn (n lo hi : Int) (w : World) :
 Calls Tryz.prog 92 #[.int .i64 n, .int .i64 lo, .int .i64 hi] w (RetQ w (.bool (inB n lo hi))) := by
 by_cases h1 : lo ≤ n
 ·have e1 : decide (lo ≤ n) = true := by simp [h1]
  by_cases h2 : n ≤ hi
  ·have HE : Hid (inB n lo hi = true) := by simp [Hid, inB, h1, h2]
   go_enter Tryz.func92, Tryz.ntmps92
   go_wp2
   go_ret
   exact ⟨by rw [HE.out]; rfl, rfl⟩
  ·have HE : Hid (inB n lo hi = false) := by simp [Hid, inB, h2]
   have e2 : decide (n ≤ hi) = false := by simp [h2]
   go_enter Tryz.func92, Tryz.ntmps92
   go_wp2
   go_ret
   exact ⟨by rw [HE.out]; rfl, rfl⟩
 ·have HE : Hid (inB n lo hi = false) := by simp [Hid, inB, h1]
  have e1 : decide (lo ≤ n) = false := by simp [h1]
  go_enter Tryz.func92, Tryz.ntmps92
  go_wp2
  go_ret
  exact ⟨by rw [HE.out]; rfl, rfl⟩
end
section
open Go.RowKit
theorem mc : (Tryz.prog.info? 3).map (fun i => (i.zero, i.size, i.bytes)) = some (some (.int .i64 0), 1, 8) := by kernel_rfl
theorem xd (w : World) (B : Nat) (ty : TypeId) (v : Value) (xs : List Int) (hown : OwnI w B v xs) (c : Nat) :
 (Builtin.append_ #[25, 25] ty #[v, .slice none 0 c]).run Tryz.prog w = .ok v w := by
 obtain ⟨i0, hi, hz0, hz1, hz2⟩ := info_parts mc
 rcases hown.2 with ⟨rfl, h0⟩ | ⟨g, cap, cur, rfl, _, _, hnc, _⟩
 ·simp [Builtin.append_, run_underlying Tryz.underlying25, sizeOf, typeInfo, hi, Builtin.lenOf, Builtin.firstCells]
 ·simp [Builtin.append_, run_underlying Tryz.underlying25, sizeOf, typeInfo, hi, Builtin.lenOf, Builtin.firstCells, hnc, storeCells]
theorem sg (b off j : Nat) : (⟨b, off, none⟩ : Addr).add j = ⟨b, off + j, none⟩ := by
 unfold Addr.add;split <;> simp_all
theorem pf {S : Nat → Prop} (w : World) {ops : Array Oper} {rest : List Oper} {o : Oper} {a : Act} {Q : Exit → Act → World → Prop} (hgd : o.guard = none) (s x : Operand)
 (ho : o.op = .call { callee := .builtin .append, args := #[s, x], argTypes := #[25, 25] })
 (B : Nat) (v : Value) (xs : List Int) (hs : a.eval s = v) (hown : OwnI w B v xs) (u : Value) (ys : List Int) (hx : a.eval x = u) (hu : IntsR w S u ys)
 (hn : xs.length + ys.length ≤ 4194304) (hB : B ≤ w.heap.size)
 (h : ∀ A c w', OwnI w' B (.slice A (xs.length + ys.length) c) (xs ++ ys) → w.grownBy w' v.ownBlock → wpList Tryz.prog ops Q rest (a.put o.dst (.slice A (xs.length + ys.length) c)) w') : wpList Tryz.prog ops Q (o :: rest) a w := by
 obtain ⟨i0, hi, hz0, hz1, hz2⟩ := info_parts mc;obtain ⟨A, c, rfl, hnc, hm, hc⟩ := hu
 rcases A with _ | ad
 ·have h0 : ys.length = 0 := by
   rcases Nat.eq_zero_or_pos ys.length with h | h
   ·exact h
   ·obtain ⟨b, off, hA, _⟩ := hc h;cases hA
  obtain rfl : ys = [] := List.eq_nil_of_length_eq_zero h0;obtain ⟨A, c', rfl⟩ := hown.shape;have h2 := h A c' w (by simpa using hown) (World.grownBy.refl _ _);refine wpList_plain hgd fun K hK => ?_;have hrun := xd w B o.type _ xs hown c;unfold Oper.wp;simp only [List.length_nil, Nat.add_zero] at hx h2;simp [execOp, ho, resolve, invoke, builtin, hs, hx, hrun, Result.andThen];exact hK _ _ h2
 ·refine wpList_append_own_at w hgd s x _ ho B 3 i0 _ 1 8 Tryz.underlying25 hi hz0 hz1 hz2 rfl (by omega) v xs.length (ic xs) hs hown ad ys.length c (ic ys) hx (by simp [ic]) ?_ ?_ ?_ ?_ hB ?_
  ·intro j u hu
   by_cases hj : j < ys.length
   ·obtain ⟨b, off, hA, -, hcell⟩ := hc (by omega);have hA' := Option.some.inj hA;rw [tx hj] at hu;have hu' := Option.some.inj hu;rw [hA', ← hu', ← hcell j hj, sg]
   ·rw [List.getElem?_eq_none (by simp [ic]; omega)] at hu;cases hu
  ·intro u hu;simp only [ic, List.mem_map] at hu;obtain ⟨z, _, rfl⟩ := hu;rfl
  ·unfold maxLen; omega
  ·omega
  ·intro v' w' ho' hgr _ _
   have ho2 : OwnI w' B v' (xs ++ ys) := by
    unfold OwnI ic;simpa [ic] using ho'
   obtain ⟨A, c, rfl⟩ := ho2.shape;simp only [List.length_append] at ho2 ⊢;exact h A c w' ho2 hgr
theorem OwnI.made {w : World} {B : Nat} (cs : Array Value) (hc : cs.size = 0) (hB : B ≤ w.heap.size) : OwnI (w.alloc (.cells cs 3)) B (.slice (some ⟨w.heap.size, 0, none⟩) 0 0) [] :=
 World.ownsRow_made w cs 0 hB (by simp [maxLen]) (by simpa using hc)
theorem uy {B : Nat} {w0 w w' : World} {v : Value} {xs : List Int} (h : Below B w0 w) (ho : OwnI w B v xs) (hg : w.grownBy w' v.ownBlock) (hB : B ≤ w.heap.size) : Below B w0 w' :=
 h.grown hg hB fun k hk => (World.ownsRow.lt ho k hk).1
theorem OwnI.alloc {w : World} {B : Nat} {v : Value} {xs : List Int} (h : OwnI w B v xs) (o : Obj) : OwnI (w.alloc o) B v xs := World.ownsRow.alloc h o
theorem OwnI.put {w : World} {B g n cap j : Nat} {xs : List Int} (h : OwnI w B (.slice (some ⟨g, 0, none⟩) n cap) xs) (hn : n = xs.length) (q : Int) : OwnI (w.setCell ⟨g, j, none⟩ (.int .i64 q)) B (.slice (some ⟨g, 0, none⟩) n cap) (xs.set j q) := by
 subst hn;have := (World.ownsRow.stored h j (.int .i64 q)).1;unfold OwnI;rw [List.length_set];simpa [ic, List.map_set] using this
theorem OwnI.at_ {w : World} {B g n cap j : Nat} {xs : List Int} (h : OwnI w B (.slice (some ⟨g, 0, none⟩) n cap) xs) (hn : n = xs.length) (hj : j < n) : w.cell? ⟨g, j, none⟩ = some (.int .i64 (gi xs j)) ∧ w.frozen? ⟨g, j, none⟩ = false := by
 subst hn;exact ⟨(World.ownsRow.cellAt h j (by omega)).trans (tx hj), World.ownsRow.frozenAt h j⟩
theorem OwnI.nil {w : World} {B : Nat} : OwnI w B (.slice none 0 0) [] := World.ownsRow_nil _ _ _ _
end
section
open Go.RowKit
theorem uv {a b c : World} {row : Option Nat} (h : a.grownBy b row) (k : b.grownBy c row) : a.grownBy c row :=
 ⟨k.os.trans h.os, k.tape.trans h.tape, k.output.trans h.output, Nat.le_trans h.size k.size, fun i hi hne => (k.block i (Nat.lt_of_lt_of_le hi h.size) hne).trans (h.block i hi hne)⟩
theorem iy {a w : World} {row : Option Nat} (h : a.grownBy w row) (n : Nat) : a.grownBy (w.drewN n) row := ⟨h.os, h.tape, h.output, h.size, h.block⟩
theorem A9 {a w : World} {g : Nat} (h : a.grownBy w (some g)) (i : Nat) (u : Value) : a.grownBy (w.setCell ⟨g, i, none⟩ u) (some g) :=
 ⟨h.os, h.tape, h.output, by simpa [World.setCell] using h.size, fun k hk hne => (Below.heap_setCell w ⟨g, i, none⟩ u k (by rintro rfl; exact hne rfl)).trans (h.block k hk hne)⟩
theorem OwnI.grown {w w' : World} {B gc : Nat} {v : Value} {xs : List Int} (h : OwnI w B v xs) (hg : w.grownBy w' (some gc)) (hB : gc < B) : OwnI w' B v xs :=
 h.keepB fun b hb hl => hg.block b hl (by simp; omega)
theorem Ev {a w w' : World} {row : Option Nat} (h : a.grownBy w row) (hb : Below a.heap.size w w') : a.grownBy w' row :=
 ⟨hb.os.trans h.os, hb.tape.trans h.tape, hb.output.trans h.output, Nat.le_trans h.size hb.size, fun k hk hne => (hb.block k hk).trans (h.block k hk hne)⟩
end
section
open Go.RowKit
set_option maxHeartbeats 400000 in
theorem lj {S : Nat → Prop} (v : Value) (xs : List Int) (w : World) (h : IntsR w S v xs) (hn : xs.length ≤ 2097152) :
 Calls Tryz.prog 211 #[v] w (Ls w xs) := by
 have HR := Lib.hid h;clear h
 go_enter Tryz.func211, Tryz.ntmps211
 go_wp2_with (at_builtin; refine pf _ rfl (.tmp 3) (.tmp 4) rfl w.heap.size _ [] rfl (OwnI.made _ rfl (Nat.le_refl _)) _ xs rfl (HR.out.below ((Below.refl _ _).alloc (Nat.le_refl _) _)) (by simp; omega) (by simp) ?_)
 intro A c w' ho hg;have HO := Lib.hid ho;have HB := Lib.hid (uy ((Below.refl w.heap.size w).alloc (Nat.le_refl _) (Obj.cells #[] 3)) (OwnI.made #[] rfl (Nat.le_refl _)) hg (by simp));clear ho hg
 go_wp2_with fail
 go_ret
 exact ⟨_, rfl, by simpa using HO.out, HB.out⟩
end
section
open Go.RowKit
def pc (es : List (Int × Int)) : List Value := es.flatMap fun e => [.int .i64 e.1, .int .i64 e.2]
theorem Ao (es : List (Int × Int)) : (pc es).length = es.length * 2 := by
 induction es with
 | nil => rfl
 | cons e es ih => simp only [pc, List.flatMap_cons, List.length_append, List.length_cons, List.length_nil] at ih ⊢; omega
theorem Ke (es fs : List (Int × Int)) : pc (es ++ fs) = pc es ++ pc fs := by simp [pc]
theorem Gs {es : List (Int × Int)} {j : Nat} (h : j < es.length) : (pc es)[j * 2]? = some (.int .i64 (gp es j).1) ∧ (pc es)[j * 2 + 1]? = some (.int .i64 (gp es j).2) := by
 induction es generalizing j with
 | nil => simp at h
 | cons e es ih =>
  rcases j with _ | j
  ·simp [pc, gp]
  ·have hj : j < es.length := by simpa using h
   have := ih hj;have e1 : pc (e :: es) = .int .i64 e.1 :: .int .i64 e.2 :: pc es := by simp [pc]
   rw [e1, show (j + 1) * 2 = j * 2 + 1 + 1 by omega];simp only [List.getElem?_cons_succ, gp, List.getD_cons_succ];exact this
theorem Tr {es : List (Int × Int)} : ∀ v ∈ pc es, v.oneCell' = true := by
 intro v hv;simp only [pc, List.mem_flatMap] at hv;obtain ⟨e, _, h⟩ := hv;simp at h
 rcases h with rfl | rfl <;> rfl
theorem OwnI.keepO {w w' : World} {B : Nat} {v : Value} {xs : List Int} (h : OwnI w B v xs) (hk : ∀ b, v.ownBlock = some b → w'.heap[b]? = w.heap[b]?) : OwnI w' B v xs := by
 obtain ⟨h1, h2⟩ := h;refine ⟨h1, ?_⟩
 rcases h2 with h2 | ⟨g, cap, cur, rfl, hB, hg, h⟩
 ·exact .inl h2
 ·exact .inr ⟨g, cap, cur, rfl, hB, (hk g rfl).trans hg, h⟩
theorem OwnI.blk {w : World} {B : Nat} {v : Value} {xs : List Int} (h : OwnI w B v xs) : ∀ g, v.ownBlock = some g → B ≤ g ∧ g < w.heap.size := fun g hg => World.ownsRow.lt h g hg
def Mt (w : World) (p : Nat) (x y z : Value) : World := ((w.setCell ⟨p, 0, none⟩ x).setCell ⟨p, 1, none⟩ y).setCell ⟨p, 2, none⟩ z
theorem jq (w : World) (p : Nat) (x y z : Value) {b : Nat} (h : b ≠ p) : (Mt w p x y z).heap[b]? = w.heap[b]? :=
 ((Below.heap_setCell _ _ _ b h).trans (Below.heap_setCell _ _ _ b h)).trans (Below.heap_setCell _ _ _ b h)
theorem w9 {w : World} {p : Nat} {t : TypeId} {a b c x y z : Value} (h : Blk w p t #[a, b, c]) : Blk (Mt w p x y z) p t #[x, y, z] := ((h.put 0 x).put 1 y).put 2 z
theorem pj {B p : Nat} {a w : World} (h : Below B a w) (hp : B ≤ p) (x y z : Value) : Below B a (Mt w p x y z) := ((h.setCell hp _).setCell hp _).setCell hp _
def OwnE (w : World) (B : Nat) (v : Value) (es : List (Int × Int)) : Prop := w.ownsRow B 111 2 v es.length (pc es)
section
variable {w w' : World} {B B' : Nat} {v : Value} {es : List (Int × Int)}
theorem OwnE.keepB (h : OwnE w B v es) (hk : ∀ b, v.ownBlock = some b → w'.heap[b]? = w.heap[b]?) : OwnE w' B v es := by
 obtain ⟨h1, h2⟩ := h;refine ⟨h1, ?_⟩
 rcases h2 with h2 | ⟨g, cap, cur, rfl, hB, hg, h⟩
 ·exact .inl h2
 ·exact .inr ⟨g, cap, cur, rfl, hB, (hk g rfl).trans hg, h⟩
theorem OwnE.lt (h : OwnE w B v es) : ∀ g, v.ownBlock = some g → B ≤ g ∧ g < w.heap.size := fun g hg => World.ownsRow.lt h g hg
theorem OwnE.below (h : OwnE w B v es) (hb : Below w.heap.size w w') : OwnE w' B v es := h.keepB fun b hv => hb.block b (h.lt b hv).2
theorem OwnE.mono (h : OwnE w B v es) (hB : B' ≤ B) : OwnE w B' v es := by
 obtain ⟨h1, h2⟩ := h;refine ⟨h1, ?_⟩
 rcases h2 with h2 | ⟨g, cap, cur, hv, hb, h⟩
 ·exact .inl h2
 ·exact .inr ⟨g, cap, cur, hv, by omega, h⟩
theorem OwnE.shape (h : OwnE w B v es) : ∃ A c, v = .slice A es.length c := by
 rcases h.2 with ⟨rfl, hn⟩ | ⟨g, cap, cur, rfl, _⟩
 ·exact ⟨none, 0, by rw [hn]⟩
 ·exact ⟨_, _, rfl⟩
theorem OwnE.nil : OwnE w B (.slice none 0 0) [] := World.ownsRow_nil _ _ _ _
theorem OwnE.made (cs : Array Value) (hc : cs.size = 0) (hB : B ≤ w.heap.size) : OwnE (w.alloc (.cells cs 111)) B (.slice (some ⟨w.heap.size, 0, none⟩) 0 0) [] :=
 World.ownsRow_made w cs 0 hB (by simp [maxLen]) (by simpa using hc)
theorem OwnE.type (h : OwnE w B v es) : ∀ g, v.ownBlock = some g → ∃ cs, w.heap[g]? = some (.cells cs 111 (0, 0)) := by
 intro g hg
 rcases h.2 with ⟨rfl, hn⟩ | ⟨g', cap, cur, rfl, hB, hh, _⟩
 ·cases hg
 ·cases hg; exact ⟨cur, hh⟩
end
def OwnEs (w : World) (B : Nat) (v : Value) (ess : List (List (Int × Int))) : Prop :=
 ∃ us : Nat → Value, w.ownsRow B 103 1 v ess.length ((List.range ess.length).map us) ∧ (∀ i, i < ess.length → OwnE w B (us i) (gl ess i)) ∧
  ∀ i j, i < ess.length → j < ess.length → i ≠ j → ∀ g, (us i).ownBlock = some g → (us j).ownBlock ≠ some g
section
variable {w w' : World} {B B' : Nat} {v : Value} {ess : List (List (Int × Int))}
theorem OwnEs.keepB (h : OwnEs w B v ess) (hk : ∀ b, B ≤ b → b < w.heap.size → w'.heap[b]? = w.heap[b]?) : OwnEs w' B v ess := by
 obtain ⟨us, h1, h2, h3⟩ := h;refine ⟨us, ⟨h1.1, ?_⟩, fun i hi => (h2 i hi).keepB fun b hb => hk b ((h2 i hi).lt b hb).1 ((h2 i hi).lt b hb).2, h3⟩
 rcases h1.2 with h4 | ⟨g, cap, cur, rfl, hB, hg, hr⟩
 ·exact .inl h4
 ·exact .inr ⟨g, cap, cur, rfl, hB, (hk g hB (Array.getElem?_eq_some_iff.1 hg).1).trans hg, hr⟩
theorem OwnEs.mono (h : OwnEs w B v ess) (hB : B' ≤ B) : OwnEs w B' v ess := by
 obtain ⟨us, h1, h2, h3⟩ := h;refine ⟨us, ⟨h1.1, ?_⟩, fun i hi => (h2 i hi).mono hB, h3⟩
 rcases h1.2 with h4 | ⟨g, cap, cur, hv, hb, hr⟩
 ·exact .inl h4
 ·exact .inr ⟨g, cap, cur, hv, by omega, hr⟩
theorem OwnEs.nil : OwnEs w B (.slice none 0 0) [] := ⟨fun _ => .slice none 0 0, World.ownsRow_nil _ _ _ _, fun _ hi => absurd hi (Nat.not_lt_zero _), fun _ _ hi => absurd hi (Nat.not_lt_zero _)⟩
theorem Kb {us : Nat → Value} {n j : Nat} (h : j < n) : ((List.range n).map us)[j]? = some (us j) := by simp [h]
end
def KeptBut (T : TypeId) (w w' : World) : Prop := ∀ (b : Nat) (cs : Array Value) (t : TypeId) (fr : Nat × Nat), w.heap[b]? = some (.cells cs t fr) → t ≠ T → w'.heap[b]? = w.heap[b]?
theorem KeptBut.trans {T : TypeId} {a b c : World} (h : KeptBut T a b) (k : KeptBut T b c) : KeptBut T a c := fun x cs t fr hx ht => (k x cs t fr ((h x cs t fr hx ht).trans hx) ht).trans (h x cs t fr hx ht)
theorem KeptBut.of_below {T : TypeId} {w w' : World} (h : Below w.heap.size w w') : KeptBut T w w' := fun b _ _ _ hx _ => h.block b (Array.getElem?_eq_some_iff.1 hx).1
theorem KeptBut.of_grown {T : TypeId} {w w' : World} {row : Option Nat} (h : w.grownBy w' row) (hr : ∀ g, row = some g → ∃ cs fr, w.heap[g]? = some (.cells cs T fr)) : KeptBut T w w' := fun b cs t fr hx ht =>
 h.block b (Array.getElem?_eq_some_iff.1 hx).1 (fun e => by
  obtain ⟨cs', fr', h1⟩ := hr b e.symm;rw [hx] at h1;simp at h1
  exact ht h1.2.1)
theorem KeptBut.of_set {T : TypeId} {w : World} {p : Addr} {cs : Array Value} {fr : Nat × Nat} (h : w.heap[p.block]? = some (.cells cs T fr)) (u : Value) : KeptBut T w (w.setCell p u) := fun b cs' t fr' hx ht =>
 Below.heap_setCell w p u b (fun e => by
  rw [e, h] at hx;simp at hx
  exact ht hx.2.1.symm)
theorem OwnI.but {T : TypeId} {w w' : World} {B : Nat} {v : Value} {xs : List Int} (h : OwnI w B v xs) (hk : KeptBut T w w') (hT : 3 ≠ T) : OwnI w' B v xs := by
 obtain ⟨h1, h2⟩ := h;refine ⟨h1, ?_⟩
 rcases h2 with h2 | ⟨g, cap, cur, rfl, hB, hg, h⟩
 ·exact .inl h2
 ·exact .inr ⟨g, cap, cur, rfl, hB, (hk g _ _ _ hg hT).trans hg, h⟩
theorem OwnE.but {T : TypeId} {w w' : World} {B : Nat} {v : Value} {es : List (Int × Int)} (h : OwnE w B v es) (hk : KeptBut T w w') (hT : 111 ≠ T) : OwnE w' B v es := by
 obtain ⟨h1, h2⟩ := h;refine ⟨h1, ?_⟩
 rcases h2 with h2 | ⟨g, cap, cur, rfl, hB, hg, h⟩
 ·exact .inl h2
 ·exact .inr ⟨g, cap, cur, rfl, hB, (hk g _ _ _ hg hT).trans hg, h⟩
theorem OwnEs.but {T : TypeId} {w w' : World} {B : Nat} {v : Value} {ess : List (List (Int × Int))} (h : OwnEs w B v ess) (hk : KeptBut T w w') (hT : 111 ≠ T) (hT2 : 103 ≠ T) : OwnEs w' B v ess := by
 obtain ⟨us, h1, h2, h3⟩ := h;refine ⟨us, ⟨h1.1, ?_⟩, fun i hi => (h2 i hi).but hk hT, h3⟩
 rcases h1.2 with h4 | ⟨g, cap, cur, rfl, hB, hg, hr⟩
 ·exact .inl h4
 ·exact .inr ⟨g, cap, cur, rfl, hB, (hk g _ _ _ hg hT2).trans hg, hr⟩
theorem Qz {w : World} {B : Nat} {t : TypeId} {sz : Nat} {v : Value} {n : Nat} {xs : List Value} (h : w.ownsRow B t sz v n xs) : ∀ g, v.ownBlock = some g → ∃ cs fr, w.heap[g]? = some (.cells cs t fr) := fun g hg => by
 rcases h.2 with ⟨rfl, _⟩ | ⟨g', cap, cur, rfl, _, hh, _⟩
 ·cases hg
 ·cases hg; exact ⟨cur, _, hh⟩
def Qa (w : World) (B : Nat) (v : Value) (N : Net) : Prop :=
 ∃ ve vi vn, v = .agg #[ve, vi, vn] ∧ OwnEs w B ve N.ends ∧ OwnI w B vi N.ids ∧ OwnI w B vn N.inputs ∧ ∀ g, vi.ownBlock = some g → vn.ownBlock ≠ some g
section
variable {w w' : World} {B B' : Nat} {v : Value} {N : Net}
end
def S4 (w : World) (N : Net) (e : Ending) (w' : World) : Prop := ∃ v, e = .returned v ∧ Qa w' w.heap.size v N ∧ Below w.heap.size w w'
theorem Uj : (Tryz.prog.info? 111).map (fun i => (i.zero, i.size, i.bytes)) = some (some (.agg #[.int .i64 0, .int .i64 0]), 2, 16) := by kernel_rfl
theorem Jd : (Tryz.prog.info? 103).map (fun i => (i.zero, i.size, i.bytes)) = some (some (.slice none 0 0), 1, 24) := by kernel_rfl
end
section
open Go.RowKit
def Sg (w : World) (v v' : Value) : Prop := ∀ g, v'.ownBlock = some g → v.ownBlock = some g ∨ g = w.heap.size
theorem vg {S : Nat → Prop} (w : World) (ty : TypeId) (B : Nat) (v : Value) (xs : List (Int × Int)) (hown : OwnE w B v xs) (u : Value) (ys : List (Int × Int)) (hu : EndsR w S u ys) (hn : xs.length + ys.length ≤ 1048576) (hB : B ≤ w.heap.size) :
 ∃ A c w', (Builtin.append_ #[103, 103] ty #[v, u]).run Tryz.prog w = .ok (.slice A (xs.length + ys.length) c) w' ∧ OwnE w' B (.slice A (xs.length + ys.length) c) (xs ++ ys) ∧ w.grownBy w' v.ownBlock ∧ Sg w v (.slice A (xs.length + ys.length) c) := by
 obtain ⟨i0, hi, hz0, hz1, hz2⟩ := info_parts Uj;obtain ⟨A, c, rfl, hnc, hm, hc⟩ := hu
 rcases A with _ | ad
 ·have h0 : ys.length = 0 := by
   rcases Nat.eq_zero_or_pos ys.length with h | h
   ·exact h
   ·obtain ⟨b, off, hA, _⟩ := hc h;cases hA
  obtain rfl : ys = [] := List.eq_nil_of_length_eq_zero h0;obtain ⟨A, c', rfl⟩ := hown.shape;refine ⟨A, c', w, ?_, by simpa using hown, World.grownBy.refl _ _, fun g hg => .inl hg⟩
  rcases hown.2 with ⟨h1, h0⟩ | ⟨g, cap, cur, h1, _, _, hnc, _⟩
  ·obtain rfl : xs = [] := List.eq_nil_of_length_eq_zero h0;cases h1;simp [Builtin.append_, run_underlying Tryz.underlying103, sizeOf, typeInfo, hi, Builtin.lenOf, Builtin.firstCells]
  ·cases h1;simp [Builtin.append_, run_underlying Tryz.underlying103, sizeOf, typeInfo, hi, Builtin.lenOf, Builtin.firstCells, hnc, storeCells]
 ·obtain ⟨v', w', hr, h2, h3, h4, h5⟩ := run_append_own_at (P := Tryz.prog) w B 103 ty 111 i0 _ 2 16 Tryz.underlying103 hi hz0 hz1 hz2 rfl (by omega) v xs.length (pc xs) hown ad ys.length c (pc ys) (Ao ys) (by
   intro j q hq
   have hjl : j < ys.length * 2 := by
    have := (List.getElem?_eq_some_iff.1 hq).1;rw [Ao] at this; exact this
   obtain ⟨b, off, hA, -, hcell⟩ := hc (by omega);have hA' := Option.some.inj hA;rw [hA', sg];obtain ⟨k, hk⟩ : ∃ k, j = k * 2 ∨ j = k * 2 + 1 := ⟨j / 2, by omega⟩
   rcases hk with rfl | rfl
   ·have := (Gs (es := ys) (j := k) (by omega)).1;rw [this] at hq;rw [← Option.some.inj hq];exact (hcell k (by omega)).1
   ·have := (Gs (es := ys) (j := k) (by omega)).2;rw [this] at hq;rw [← Option.some.inj hq]
    exact (hcell k (by omega)).2) Tr (by unfold maxLen; omega) (by omega) hB
  have ho2 : OwnE w' B v' (xs ++ ys) := by
   unfold OwnE;rw [List.length_append, Ke]; exact h2
  obtain ⟨A', c', rfl⟩ := ho2.shape;rw [List.length_append] at hr ho2 h5;refine ⟨A', c', w', hr, ho2, h3, fun g hg => ?_⟩
  rcases h5 with h5 | h5
  ·exact .inl (h5 ▸ hg)
  ·rw [hg] at h5; exact .inr (Option.some.inj h5)
theorem sq {S : Nat → Prop} (w : World) {ops : Array Oper} {o : Oper} {a : Act} {K : Act → World → Prop} {Q : Exit → Act → World → Prop} {E : Prop} (hgd : o.guard = none) (s x : Operand)
 (ho : o.op = .call { callee := .builtin .append, args := #[s, x], argTypes := #[103, 103] })
 (B : Nat) (v : Value) (xs : List (Int × Int)) (hs : a.eval s = v) (hown : OwnE w B v xs) (u : Value) (ys : List (Int × Int)) (hx : a.eval x = u) (hu : EndsR w S u ys) (hn : xs.length + ys.length ≤ 1048576) (hB : B ≤ w.heap.size)
 (h : ∀ A c w', OwnE w' B (.slice A (xs.length + ys.length) c) (xs ++ ys) → w.grownBy w' v.ownBlock → Sg w v (.slice A (xs.length + ys.length) c) → K (a.put o.dst (.slice A (xs.length + ys.length) c)) w') :
 if Region.wanted o (yielded ops a.tmps) = true then Oper.wp Tryz.prog o a w K Q else E := by
 have hw : Region.wanted o (yielded ops a.tmps) = true := by simp [Region.wanted, hgd]
 rw [if_pos hw];obtain ⟨A, c, w', hr, h2, h3, h4⟩ := vg w o.type B v xs hown u ys hu hn hB;unfold Oper.wp execOp;simp only [ho, resolve, invoke, builtin, Sem.run_bind, Sem.run_pure, Result.andThen_ok, List.map_toArray, List.map_cons, List.map_nil, hs, hx, hr];exact h A c w' h2 h3 h4
theorem su (w : World) (ty : TypeId) (B : Nat) (v : Value) (n : Nat) (us : List Value) (hown : w.ownsRow B 103 1 v n us) (g : Nat) (A1 : Option Addr) (n1 c1 : Nat) (hg : Blk w g 103 #[.slice A1 n1 c1]) (hn : n ≤ 1048576) (hB : B ≤ w.heap.size) :
 ∃ A c w', (Builtin.append_ #[24, 24] ty #[v, .slice (some ⟨g, 0, none⟩) 1 1]).run Tryz.prog w = .ok (.slice A (n + 1) c) w' ∧ w'.ownsRow B 103 1 (.slice A (n + 1) c) (n + 1) (us ++ [.slice A1 n1 c1]) ∧ w.grownBy w' v.ownBlock ∧ Sg w v (.slice A (n + 1) c) := by
 obtain ⟨i0, hi, hz0, hz1, hz2⟩ := info_parts Jd
 obtain ⟨v', w', hr, h2, h3, h4, h5⟩ := run_append_own_at (P := Tryz.prog) w B 24 ty 103 i0 _ 1 24 Tryz.underlying24 hi hz0 hz1 hz2 rfl (by omega) v n us hown ⟨g, 0, none⟩ 1 1 [.slice A1 n1 c1] rfl (by
  intro j q hq
  rcases j with _ | j
  ·simp at hq; subst hq;rw [sg, hg.cell]; rfl
  ·simp at hq) (by simp [Value.oneCell']) (by unfold maxLen; omega) (by omega) hB
 rcases h2.2 with ⟨_, h0⟩ | ⟨g', cap, cur, rfl, hrest⟩
 ·omega
 ·refine ⟨_, cap, w', hr, h2, h3, fun k hk => ?_⟩
  rcases h5 with h5 | h5
  ·exact .inl (h5 ▸ hk)
  ·rw [hk] at h5; exact .inr (Option.some.inj h5)
theorem qq (w : World) {ops : Array Oper} {o : Oper} {a : Act} {K : Act → World → Prop} {Q : Exit → Act → World → Prop} {E : Prop} (hgd : o.guard = none) (s x : Operand)
 (ho : o.op = .call { callee := .builtin .append, args := #[s, x], argTypes := #[24, 24] })
 (B : Nat) (v : Value) (n : Nat) (us : List Value) (hs : a.eval s = v) (hown : w.ownsRow B 103 1 v n us) (g : Nat) (A1 : Option Addr) (n1 c1 : Nat) (hx : a.eval x = .slice (some ⟨g, 0, none⟩) 1 1) (hg : Blk w g 103 #[.slice A1 n1 c1]) (hn : n ≤ 1048576) (hB : B ≤ w.heap.size)
 (h : ∀ A c w', w'.ownsRow B 103 1 (.slice A (n + 1) c) (n + 1) (us ++ [.slice A1 n1 c1]) → w.grownBy w' v.ownBlock → Sg w v (.slice A (n + 1) c) → K (a.put o.dst (.slice A (n + 1) c)) w') :
 if Region.wanted o (yielded ops a.tmps) = true then Oper.wp Tryz.prog o a w K Q else E := by
 have hw : Region.wanted o (yielded ops a.tmps) = true := by simp [Region.wanted, hgd]
 rw [if_pos hw];obtain ⟨A, c, w', hr, h2, h3, h4⟩ := su w o.type B v n us hown g A1 n1 c1 hg hn hB;unfold Oper.wp execOp;simp only [ho, resolve, invoke, builtin, Sem.run_bind, Sem.run_pure, Result.andThen_ok, List.map_toArray, List.map_cons, List.map_nil, hs, hx, hr];exact h A c w' h2 h3 h4
end
section
open Go.RowKit
structure Enc (α : Type) where
 k : Nat
 enc : α → List Value
 len : ∀ x, (enc x).length = k
 pos : 0 < k
 one : ∀ x, ∀ v ∈ enc x, v.oneCell' = true
variable {α : Type}
section
variable [Inhabited α]
end
section
variable [Inhabited α] {E : Enc α} {w w' : World} {S S' : Nat → Prop} {v : Value} {xs : List α}
end
section
variable {E : Enc α} {T : TypeId} {w w' : World} {B B' : Nat} {v : Value} {xs : List α}
end
section
variable [Inhabited α] {P : Program} {E : Enc α} {st T : TypeId}
end
end
section
open Go.RowKit
theorem OwnEs.of_rowIs {w : World} {B g n : Nat} (h : w.rowIs g 103 n (fun _ => .slice none 0 0)) (hB : B ≤ g) (hm : n ≤ maxLen) : OwnEs w B (.slice (some ⟨g, 0, none⟩) n n) (List.replicate n []) := by
 obtain ⟨c, hc, hs, hf⟩ := h;refine ⟨fun _ => .slice none 0 0, ?_, fun i _ => by rw [jf]; exact OwnE.nil, fun _ _ _ _ _ g hg => by cases hg⟩;rw [List.length_replicate];refine ⟨by simp, .inr ⟨g, n, c, rfl, hB, hc, Nat.le_refl _, hm, by omega, ?_⟩⟩;apply List.ext_getElem?;intro i
 by_cases hi : i < n
 ·rw [List.getElem?_take_of_lt (by omega), Kb hi];simpa using hf i hi
 ·rw [List.getElem?_eq_none (by simp; omega), List.getElem?_eq_none (by simp; omega)]
end
section
open Go.RowKit
theorem dp (n lo hi : Int) (w : World) :
 Calls Tryz.prog 98 #[.int .i64 n, .int .i64 lo, .int .i64 hi] w (RetQ w (.bool (inB n lo hi))) := by
 by_cases h1 : lo ≤ n
 ·have e1 : decide (lo ≤ n) = true := by simp [h1]
  by_cases h2 : n ≤ hi
  ·have HE : Hid (inB n lo hi = true) := by simp [Hid, inB, h1, h2]
   go_enter Tryz.func98, Tryz.ntmps98
   go_wp2
   go_ret
   exact ⟨by rw [HE.out]; rfl, rfl⟩
  ·have HE : Hid (inB n lo hi = false) := by simp [Hid, inB, h2]
   have e2 : decide (n ≤ hi) = false := by simp [h2]
   go_enter Tryz.func98, Tryz.ntmps98
   go_wp2
   go_ret
   exact ⟨by rw [HE.out]; rfl, rfl⟩
 ·have HE : Hid (inB n lo hi = false) := by simp [Hid, inB, h1]
  have e1 : decide (lo ≤ n) = false := by simp [h1]
  go_enter Tryz.func98, Tryz.ntmps98
  go_wp2
  go_ret
  exact ⟨by rw [HE.out]; rfl, rfl⟩
set_option maxHeartbeats 400000 in
theorem tr {S : Nat → Prop} (v : Value) (xs : List Int) (n : Int) (w : World) (h : IntsR w S v xs) :
 Calls Tryz.prog 60 #[v, .int .i64 n] w (RetQ w (.bool (qb xs n))) := by
 have hb := h.bound;obtain ⟨A, c, rfl, hnc, hm, hx⟩ := h;have HX := Lib.hid hx;clear hx
 go_enter Tryz.func60, Tryz.ntmps60
 go_wp2
 go_loop [9] (fun i => ∃ k : Nat, k ≤ xs.length ∧ i = .int .i64 k ∧ ∀ j, j < k → gi xs j ≠ n) (fun i => xs.length - (intOf i).toNat)
 case atStart => exact ⟨0, Nat.zero_le _, rfl, fun j hj => absurd hj (Nat.not_lt_zero _)⟩
 case round =>
  obtain ⟨k, hk, rfl, hs⟩ := hrel;have HS := Lib.hid hs;clear hs
  by_cases hlt : k < xs.length
  ·obtain ⟨b, off, rfl, -, hc⟩ := HX.out (by omega);have h1 := hc k hlt;clear hc
   by_cases he : gi xs k = n
   ·have HT := Lib.hid (Ha hlt he);have e2 : (gi xs k == n) = true := by simp [he]
    clear he
    go_wp2
    go_ret
    exact ⟨by rw [HT.out]; rfl, rfl⟩
   ·have e2 : (gi xs k == n) = false := by simp [he]
    have HE := Lib.hid he;clear he
    go_wp2
    go_round
    case rel =>
     refine ⟨k + 1, by omega, by go_num, fun j hj => ?_⟩
     by_cases h1 : j = k
     ·subst h1; exact HE.out
     ·exact HS.out j (by omega)
    case measure => simp [intOf]; omega
  ·have HT : Hid (qb xs n = false) := yj.2 fun j hj => HS.out j (by omega)
   go_wp2
   go_ret
   exact ⟨by rw [HT.out]; rfl, rfl⟩
set_option maxHeartbeats 400000 in
theorem K6 {S : Nat → Prop} (v : Value) (xs : List Int) (lo hi : Int) (w : World) (h : IntsR w S v xs) :
 Calls Tryz.prog 151 #[v, .int .i64 lo, .int .i64 hi] w (RetQ w (.bool (qk xs lo hi))) := by
 have hb := h.bound;obtain ⟨A, c, rfl, hnc, hm, hx⟩ := h;have HX := Lib.hid hx;clear hx
 go_enter Tryz.func151, Tryz.ntmps151
 go_wp2
 go_loop [11] (fun i => ∃ k : Nat, k ≤ xs.length ∧ i = .int .i64 k ∧ ∀ j, j < k → inB (gi xs j) lo hi = true) (fun i => xs.length - (intOf i).toNat)
 case atStart => exact ⟨0, Nat.zero_le _, rfl, fun j hj => absurd hj (Nat.not_lt_zero _)⟩
 case round =>
  obtain ⟨k, hk, rfl, hs⟩ := hrel;have HS := Lib.hid hs;clear hs
  by_cases hlt : k < xs.length
  ·obtain ⟨b, off, rfl, -, hc⟩ := HX.out (by omega);have h1 := hc k hlt;clear hc;cases he : inB (gi xs k) lo hi
   ·have HT : Hid (qk xs lo hi = false) := by
     show _ = false;rw [← Bool.not_eq_true, ze];intro h; have := h k hlt; rw [he] at this; cases this
    have HE := Lib.hid he;clear he
    go_wp2_with (go_at_call 98; refine (dp _ _ _ _).mono ?_; rintro e w1 ⟨rfl, rfl⟩; rw [HE.out])
    go_ret
    exact ⟨by rw [HT.out]; rfl, rfl⟩
   ·have HE := Lib.hid he;clear he
    go_wp2_with (go_at_call 98; refine (dp _ _ _ _).mono ?_; rintro e w1 ⟨rfl, rfl⟩; rw [HE.out])
    go_round
    case rel =>
     refine ⟨k + 1, by omega, by go_num, fun j hj => ?_⟩
     by_cases h1 : j = k
     ·subst h1; exact HE.out
     ·exact HS.out j (by omega)
    case measure => simp [intOf]; omega
  ·have HT : Hid (qk xs lo hi = true) := ze.2 fun j hj => HS.out j (by omega)
   go_wp2
   go_ret
   exact ⟨by rw [HT.out]; rfl, rfl⟩
theorem IntsR.take {w : World} {S : Nat → Prop} {A : Option Addr} {c k : Nat} {xs : List Int} (h : 0 < xs.length → ∃ b off, A = some ⟨b, off, none⟩ ∧ S b ∧ ∀ j, j < xs.length → w.cell? ⟨b, off + j, none⟩ = some (.int .i64 (gi xs j)))
 (hk : k ≤ xs.length) (hc : xs.length ≤ c) (hm : c ≤ maxLen) : IntsR w S (.slice A k c) (xs.take k) := by
 have hl : (xs.take k).length = k := by simp [hk]
 refine ⟨A, c, by rw [hl], by omega, hm, fun hn => ?_⟩;obtain ⟨b, off, hA, hS, hcell⟩ := h (by omega);refine ⟨b, off, hA, hS, fun j hj => ?_⟩;rw [hcell j (by omega)];simp [gi, show j < k by omega]
set_option maxRecDepth 100000 in
set_option maxHeartbeats 800000 in
theorem Kr {S : Nat → Prop} (v : Value) (xs : List Int) (n : Int) (w : World) (h : IntsR w S v xs) :
 Calls Tryz.prog 150 #[v, .int .i64 n] w (RetQ w (.bool (rz xs n))) := by
 have hb := h.bound;obtain ⟨A, c, rfl, hnc, hm, hx⟩ := h;have HX := Lib.hid hx;have HM := Lib.hid hm;clear hx hm
 go_enter Tryz.func150, Tryz.ntmps150
 go_wp2
 go_loop [9] (fun i => ∃ k : Nat, k ≤ xs.length ∧ i = .int .i64 k ∧ Rf xs k) (fun i => xs.length - (intOf i).toNat)
 case atStart => exact ⟨0, Nat.zero_le _, rfl, fun j hj => absurd hj (Nat.not_lt_zero _)⟩
 case round =>
  obtain ⟨k, hk, rfl, hs⟩ := hrel;have HS := Lib.hid hs;clear hs
  by_cases hlt : k < xs.length
  ·have HR := Lib.hid (IntsR.take HX.out hk hnc HM.out);obtain ⟨b, off, rfl, -, hc⟩ := HX.out (by omega);have h1 := hc k hlt;clear hc;have hck : (k : Int) ≤ (c : Int) := by omega
   cases he : inB (gi xs k) 1 999999
   ·have HT : Hid (rz xs n = false) := by
     simp only [Hid, rz, Bool.and_eq_false_iff, decide_eq_false_iff_not];refine .inl fun h => ?_;have := (h k hlt).1; rw [he] at this; cases this
    have HE := Lib.hid he;clear he
    go_wp2_with (go_at_call 98; refine (dp _ _ _ _).mono ?_; rintro e w1 ⟨rfl, rfl⟩; rw [HE.out])
    go_ret
    exact ⟨by rw [HT.out]; rfl, rfl⟩
   ·have HE := Lib.hid he;clear he;cases hh : qb (xs.take k) (gi xs k)
    ·have HH := Lib.hid hh;clear hh
     go_wp2_with (first | (go_at_call 98; refine (dp _ _ _ _).mono ?_; rintro e w1 ⟨rfl, rfl⟩; rw [HE.out]) | (go_at_call 60; refine (tr _ _ _ _ HR.out).mono ?_; rintro e w1 ⟨rfl, rfl⟩; rw [HH.out]))
     go_round
     case rel =>
      refine ⟨k + 1, by omega, by go_num, fun j hj => ?_⟩
      by_cases h1 : j = k
      ·subst h1; exact ⟨HE.out, HH.out⟩
      ·exact HS.out j (by omega)
     case measure => simp [intOf]; omega
    ·have HT : Hid (rz xs n = false) := by
      simp only [Hid, rz, Bool.and_eq_false_iff, decide_eq_false_iff_not];refine .inl fun h => ?_;have := (h k hlt).2; rw [hh] at this; cases this
     have HH := Lib.hid hh;clear hh
     go_wp2_with (first | (go_at_call 98; refine (dp _ _ _ _).mono ?_; rintro e w1 ⟨rfl, rfl⟩; rw [HE.out]) | (go_at_call 60; refine (tr _ _ _ _ HR.out).mono ?_; rintro e w1 ⟨rfl, rfl⟩; rw [HH.out]))
     go_ret
     exact ⟨by rw [HT.out]; rfl, rfl⟩
  ·obtain rfl : k = xs.length := by omega
   have HT : Hid (rz xs n = (xs.length == 0 || (xs.length : Int) == n)) := by
    simp only [Hid, rz];have h2 : ∀ i, i < xs.length → inB (gi xs i) 1 999999 = true ∧ qb (xs.take i) (gi xs i) = false := HS.out;rw [decide_eq_true h2, Bool.true_and]
   by_cases h0 : xs.length = 0
   ·have e0 : ((xs.length : Int) == 0) = true := by simp [h0]
    have HV : Hid ((xs.length == 0 || (xs.length : Int) == n) = true) := by simp [Hid, h0]
    clear h0
    go_wp2
    go_ret
    exact ⟨by rw [HT.out, HV.out]; rfl, rfl⟩
   ·have e0 : ((xs.length : Int) == 0) = false := by simp; exact fun h => h0 (by simp [h])
    by_cases h2 : (xs.length : Int) = n
    ·have e2 : ((xs.length : Int) == n) = true := by simp [h2]
     have HV : Hid ((xs.length == 0 || (xs.length : Int) == n) = true) := by simp [Hid, h2]
     clear h0 h2
     go_wp2
     go_ret
     exact ⟨by rw [HT.out, HV.out]; rfl, rfl⟩
    ·have e2 : ((xs.length : Int) == n) = false := by simp [h2]
     have HV : Hid ((xs.length == 0 || (xs.length : Int) == n) = false) := by simp [Hid, h0, h2]
     clear h0 h2
     go_wp2
     go_ret
     exact ⟨by rw [HT.out, HV.out]; rfl, rfl⟩
end
section
open Go.RowKit
def zs (ps : List Nat) : List Int := ps.map Int.ofNat
instance : Inhabited VT := ⟨.mk 0 0 [] []⟩
section
variable {w w' : World} {S S' : Nat → Prop}
end
end
section
structure Xq (N : Net) : Prop where
 sym : Sym N.ends
 deg : ∀ v, v < N.ends.length → dg N.ends v ≤ 6
 inp : ∀ v, v < N.ends.length → 0 ≤ gi N.inputs v ∧ gi N.inputs v ≤ 9
theorem Hc {N : Net} (h : bm N = true) : Xq N := by
 obtain ⟨h1, -, h3, h4, h5⟩ := er.1 h;obtain ⟨h6, h7⟩ := qe.1 h5;refine ⟨h7, h6, fun v hv => ?_⟩;have := dz.1 (ze.1 h4 v (by omega));exact this
section
variable {N : Net}
end
section
variable {M N : Net}
end
end
section
def nd (N : Net) (w j : Nat) : Nat := (gp (gl N.ends w) j).1.toNat
def bk (N : Net) (w j : Nat) : Nat := (gp (gl N.ends w) j).2.toNat
theorem w4 {N : Net} (h : Sym N.ends) {a i : Nat} (ha : a < N.ends.length) (hi : i < (gl N.ends a).length) :
 nd N a i < N.ends.length ∧ bk N a i < (gl N.ends (nd N a i)).length ∧ nd N (nd N a i) (bk N a i) = a ∧ bk N (nd N a i) (bk N a i) = i ∧ gp (gl N.ends a) i = (((nd N a i : Nat) : Int), ((bk N a i : Nat) : Int)) := by
 obtain ⟨b, j, h1, h2, h3, h4⟩ := h a i ha hi;have e1 : gp (gl N.ends a) i = ((b : Int), (j : Int)) := h1;have n1 : nd N a i = b := by unfold nd; rw [e1]; rfl
 have n2 : bk N a i = j := by unfold bk; rw [e1]; rfl
 have e2 : gp (gl N.ends b) j = ((a : Int), (i : Int)) := h4;rw [n1, n2];exact ⟨h2, h3, by unfold nd; rw [e2]; rfl, by unfold bk; rw [e2]; rfl, e1⟩
end
section
def me (b : Nat) (P : Nat → Bool) : Int := match (List.range b).find? P with
 | some j => (j : Int)
 | none => -1
theorem jj {b : Nat} {P : Nat → Bool} {m : Nat} (hm : m < b) (h : P m = true) (hl : ∀ j, j < m → P j = false) : me b P = m := by
 have : (List.range b).find? P = some m := List.find?_range_eq_some.2 ⟨h, List.mem_range.2 hm, fun j hj => by simp [hl j hj]⟩;unfold me; rw [this]
theorem ls {b : Nat} {P : Nat → Bool} (h : ∀ j, j < b → P j = false) : me b P = -1 := by
 have : (List.range b).find? P = none := List.find?_eq_none.2 fun j hj => by simp [h j (List.mem_range.1 hj)]
 unfold me; rw [this]
theorem ym (b : Nat) (P : Nat → Bool) : (me b P = -1 ∧ ∀ j, j < b → P j = false) ∨ ∃ m : Nat, me b P = m ∧ m < b ∧ P m = true ∧ ∀ j, j < m → P j = false := by
 cases h : (List.range b).find? P with
 | none => exact .inl ⟨by unfold me; rw [h], fun j hj => by have := List.find?_eq_none.1 h j (List.mem_range.2 hj); simpa using this⟩
 | some m =>
  obtain ⟨h1, h2, h3⟩ := List.find?_range_eq_some.1 h;exact .inr ⟨m, by unfold me; rw [h], List.mem_range.1 h2, h1, fun j hj => by simpa using h3 j hj⟩
theorem qd {b : Nat} {P Q : Nat → Bool} (h : ∀ j, j < b → P j = Q j) : me b P = me b Q := by
 rcases ym b P with ⟨h1, h2⟩ | ⟨m, h1, h2, h3, h4⟩
 ·rw [h1, ls fun j hj => by rw [← h j hj]; exact h2 j hj]
 ·rw [h1, jj h2 (by rw [← h m h2]; exact h3) fun j hj => by rw [← h j (by omega)]; exact h4 j hj]
def tab (n : Nat) (f : Nat → Int) : List Int := (List.range n).map f
theorem Ik (n : Nat) (f : Nat → Int) : (tab n f).length = n := by simp [tab]
theorem O0 {n : Nat} {f : Nat → Int} {w : Nat} (h : w < n) : gi (tab n f) w = f w := by simp [tab, gi, h]
theorem Gb {n : Nat} {f : Nat → Int} {l : List Int} (hl : l.length = n) (h : ∀ w, w < n → gi l w = f w) : l = tab n f := K8 (hl.trans (Ik n f).symm) fun w hw => by rw [O0 (by omega)]; exact h w (by omega)
section
variable {N : Net} {root : Nat}
end
end
section
section
variable {N : Net}
def cnt (n : Nat) (p : Nat → Bool) : Int := Mm n fun j => if p j = true then 1 else 0
theorem Ff (n : Nat) (p : Nat → Bool) : cnt (n + 1) p = cnt n p + if p n = true then 1 else 0 := rfl
theorem Jn (p : Nat → Bool) : ∀ n, 0 ≤ cnt n p ∧ cnt n p ≤ n
 | 0 => by simp [cnt, Mm]
 | n + 1 => by
  have := Jn p n;rw [Ff];split <;> omega
end
end
end Go.Proofs.YtolpiolnhgpjjaaGreat
