/- Parts of the proof, joined: Wi, App, Grw, L1o, Ow1, Ow2, Gen, Ow3, Sp1, L1m, Tv, Tab, Vt4, Ntx, Vtt. -/
import Derived.Test.YtlaahgdikiiahaaGreatChecked
import Derived.Test.YtlaahgdikiiahaaGreatCJn8
set_option linter.unusedSimpArgs false
set_option linter.unusedVariables false
namespace Go.Proofs.YtlaahgdikiiahaaGreat
section
open Go.RowKit
theorem within_any (n lo hi : Int) (w : World) :
 Calls Tryz.prog 71 #[.int .i64 n, .int .i64 lo, .int .i64 hi] w (RetQ w (.bool (inB n lo hi))) := by
 by_cases h1 : lo ≤ n
 ·have e1 : decide (lo ≤ n) = true := by simp [h1]
  by_cases h2 : n ≤ hi
  ·have HE : Hid (inB n lo hi = true) := by simp [Hid, inB, h1, h2]
   go_enter Tryz.func71, Tryz.ntmps71
   go_wp2
   go_ret
   exact ⟨by rw [HE.out]; rfl, rfl⟩
  ·have HE : Hid (inB n lo hi = false) := by simp [Hid, inB, h2]
   have e2 : decide (n ≤ hi) = false := by simp [h2]
   go_enter Tryz.func71, Tryz.ntmps71
   go_wp2
   go_ret
   exact ⟨by rw [HE.out]; rfl, rfl⟩
 ·have HE : Hid (inB n lo hi = false) := by simp [Hid, inB, h1]
  have e1 : decide (lo ≤ n) = false := by simp [h1]
  go_enter Tryz.func71, Tryz.ntmps71
  go_wp2
  go_ret
  exact ⟨by rw [HE.out]; rfl, rfl⟩
end
section
open Go.RowKit
theorem int_inf : (Tryz.prog.info? 3).map (fun i => (i.zero, i.size, i.bytes)) = some (some (.int .i64 0), 1, 8) := by kernel_rfl
theorem wpList_append_int (w : World) {ops : Array Oper} {rest : List Oper} {o : Oper} {a : Act} {Q : Exit → Act → World → Prop} (hgd : o.guard = none) (s x : Operand)
 (ho : o.op = .call { callee := .builtin .append, args := #[s, x], argTypes := #[25, 25] })
 (B : Nat) (v : Value) (xs : List Int) (hs : a.eval s = v) (hown : OwnI w B v xs) (g : Nat) (q : Int) (hx : a.eval x = .slice (some ⟨g, 0, none⟩) 1 1) (hg : w.cell? ⟨g, 0, none⟩ = some (.int .i64 q))
 (hn : xs.length ≤ 4194304) (hB : B ≤ w.heap.size)
 (h : ∀ A c w', OwnI w' B (.slice A (xs.length + 1) c) (xs ++ [q]) → w.grownBy w' v.ownBlock → wpList Tryz.prog ops Q rest (a.put o.dst (.slice A (xs.length + 1) c)) w') : wpList Tryz.prog ops Q (o :: rest) a w := by
 obtain ⟨i0, hi, hz0, hz1, hz2⟩ := info_parts int_inf
 refine wpList_append_own_at w hgd s x _ ho B 3 i0 _ 1 8 Tryz.underlying25 hi hz0 hz1 hz2 rfl (by omega) v xs.length (ic xs) hs hown ⟨g, 0, none⟩ 1 1 [.int .i64 q] hx rfl ?_ ?_ ?_ ?_ hB ?_
 ·intro j u hu
  rcases j with _ | j
  ·simp at hu; subst hu; exact hg
  ·simp at hu
 ·simp [Value.oneCell']
 ·unfold maxLen; omega
 ·omega
 ·intro v' w' ho' hgr _ _
  have ho2 : OwnI w' B v' (xs ++ [q]) := by
   unfold OwnI ic
   simpa [ic] using ho'
  obtain ⟨A, c, rfl⟩ := ho2.shape
  simp only [List.length_append, List.length_cons, List.length_nil, Nat.zero_add] at ho2 ⊢
  exact h A c w' ho2 hgr
theorem run_append_nil (w : World) (B : Nat) (ty : TypeId) (v : Value) (xs : List Int) (hown : OwnI w B v xs) (c : Nat) :
 (Builtin.append_ #[25, 25] ty #[v, .slice none 0 c]).run Tryz.prog w = .ok v w := by
 obtain ⟨i0, hi, hz0, hz1, hz2⟩ := info_parts int_inf
 rcases hown.2 with ⟨rfl, h0⟩ | ⟨g, cap, cur, rfl, _, _, hnc, _⟩
 ·simp [Builtin.append_, run_underlying Tryz.underlying25, sizeOf, typeInfo, hi, Builtin.lenOf, Builtin.firstCells]
 ·simp [Builtin.append_, run_underlying Tryz.underlying25, sizeOf, typeInfo, hi, Builtin.lenOf, Builtin.firstCells, hnc, storeCells]
theorem addr_add (b off j : Nat) : (⟨b, off, none⟩ : Addr).add j = ⟨b, off + j, none⟩ := by
 unfold Addr.add
 split <;> simp_all
theorem wpList_append_ints {S : Nat → Prop} (w : World) {ops : Array Oper} {rest : List Oper} {o : Oper} {a : Act} {Q : Exit → Act → World → Prop} (hgd : o.guard = none) (s x : Operand)
 (ho : o.op = .call { callee := .builtin .append, args := #[s, x], argTypes := #[25, 25] })
 (B : Nat) (v : Value) (xs : List Int) (hs : a.eval s = v) (hown : OwnI w B v xs) (u : Value) (ys : List Int) (hx : a.eval x = u) (hu : IntsR w S u ys)
 (hn : xs.length + ys.length ≤ 4194304) (hB : B ≤ w.heap.size)
 (h : ∀ A c w', OwnI w' B (.slice A (xs.length + ys.length) c) (xs ++ ys) → w.grownBy w' v.ownBlock → wpList Tryz.prog ops Q rest (a.put o.dst (.slice A (xs.length + ys.length) c)) w') : wpList Tryz.prog ops Q (o :: rest) a w := by
 obtain ⟨i0, hi, hz0, hz1, hz2⟩ := info_parts int_inf
 obtain ⟨A, c, rfl, hnc, hm, hc⟩ := hu
 rcases A with _ | ad
 ·have h0 : ys.length = 0 := by
   rcases Nat.eq_zero_or_pos ys.length with h | h
   ·exact h
   ·obtain ⟨b, off, hA, _⟩ := hc h
    cases hA
  obtain rfl : ys = [] := List.eq_nil_of_length_eq_zero h0
  obtain ⟨A, c', rfl⟩ := hown.shape
  have h2 := h A c' w (by simpa using hown) (World.grownBy.refl _ _)
  refine wpList_plain hgd fun K hK => ?_
  have hrun := run_append_nil w B o.type _ xs hown c
  unfold Oper.wp
  simp only [List.length_nil, Nat.add_zero] at hx h2
  simp [execOp, ho, resolve, invoke, builtin, hs, hx, hrun, Result.andThen]
  exact hK _ _ h2
 ·refine wpList_append_own_at w hgd s x _ ho B 3 i0 _ 1 8 Tryz.underlying25 hi hz0 hz1 hz2 rfl (by omega) v xs.length (ic xs) hs hown ad ys.length c (ic ys) hx (by simp [ic]) ?_ ?_ ?_ ?_ hB ?_
  ·intro j u hu
   by_cases hj : j < ys.length
   ·obtain ⟨b, off, hA, -, hcell⟩ := hc (by omega)
    have hA' := Option.some.inj hA
    rw [ic_get hj] at hu
    have hu' := Option.some.inj hu
    rw [hA', ← hu', ← hcell j hj, addr_add]
   ·rw [List.getElem?_eq_none (by simp [ic]; omega)] at hu
    cases hu
  ·intro u hu
   simp only [ic, List.mem_map] at hu
   obtain ⟨z, _, rfl⟩ := hu
   rfl
  ·unfold maxLen; omega
  ·omega
  ·intro v' w' ho' hgr _ _
   have ho2 : OwnI w' B v' (xs ++ ys) := by
    unfold OwnI ic
    simpa [ic] using ho'
   obtain ⟨A, c, rfl⟩ := ho2.shape
   simp only [List.length_append] at ho2 ⊢
   exact h A c w' ho2 hgr
theorem OwnI.made {w : World} {B : Nat} (cs : Array Value) (hc : cs.size = 0) (hB : B ≤ w.heap.size) : OwnI (w.alloc (.cells cs 3)) B (.slice (some ⟨w.heap.size, 0, none⟩) 0 0) [] :=
 World.ownsRow_made w cs 0 hB (by simp [maxLen]) (by simpa using hc)
theorem below_grown {B : Nat} {w0 w w' : World} {v : Value} {xs : List Int} (h : Below B w0 w) (ho : OwnI w B v xs) (hg : w.grownBy w' v.ownBlock) (hB : B ≤ w.heap.size) : Below B w0 w' :=
 h.grown hg hB fun k hk => (World.ownsRow.lt ho k hk).1
theorem OwnI.alloc {w : World} {B : Nat} {v : Value} {xs : List Int} (h : OwnI w B v xs) (o : Obj) : OwnI (w.alloc o) B v xs := World.ownsRow.alloc h o
theorem OwnI.drewN {w : World} {B : Nat} {v : Value} {xs : List Int} (h : OwnI w B v xs) (n : Nat) : OwnI (w.drewN n) B v xs := h
theorem cell_one (w : World) (t : TypeId) (v : Value) : (w.alloc (.cells #[v] t)).cell? ⟨w.heap.size, 0, none⟩ = some v := by
 rw [cell_of_row (w.alloc (.cells #[v] t)) w.heap.size 0 #[v] t (0, 0) (heap_alloc_new w _)]
 rfl
theorem Blk.grown {w w' : World} {g : Nat} {t : TypeId} {cs : Array Value} {row : Option Nat} (h : Blk w g t cs) (hb : w.grownBy w' row) (hg : some g ≠ row) : Blk w' g t cs := (hb.block g h.lt hg).trans h
theorem OwnI.ne {w : World} {B g : Nat} {v : Value} {xs : List Int} (h : OwnI w B v xs) (hg : g < B) : some g ≠ v.ownBlock := fun e => by
 have := (World.ownsRow.lt h g e.symm).1
 omega
theorem OwnI.put {w : World} {B g n cap j : Nat} {xs : List Int} (h : OwnI w B (.slice (some ⟨g, 0, none⟩) n cap) xs) (hn : n = xs.length) (q : Int) : OwnI (w.setCell ⟨g, j, none⟩ (.int .i64 q)) B (.slice (some ⟨g, 0, none⟩) n cap) (xs.set j q) := by
 subst hn
 have := (World.ownsRow.stored h j (.int .i64 q)).1
 unfold OwnI
 rw [List.length_set]
 simpa [ic, List.map_set] using this
theorem OwnI.at_ {w : World} {B g n cap j : Nat} {xs : List Int} (h : OwnI w B (.slice (some ⟨g, 0, none⟩) n cap) xs) (hn : n = xs.length) (hj : j < n) : w.cell? ⟨g, j, none⟩ = some (.int .i64 (gi xs j)) ∧ w.frozen? ⟨g, j, none⟩ = false := by
 subst hn
 exact ⟨(World.ownsRow.cellAt h j (by omega)).trans (ic_get hj), World.ownsRow.frozenAt h j⟩
theorem OwnI.addr {w : World} {B : Nat} {v : Value} {xs : List Int} (h : OwnI w B v xs) (hp : 0 < xs.length) : ∃ g cap, v = .slice (some ⟨g, 0, none⟩) xs.length cap ∧ B ≤ g ∧ g < w.heap.size ∧ xs.length ≤ cap ∧ cap ≤ 9223372036854775807 := by
 rcases h.2 with ⟨rfl, h0⟩ | ⟨g, cap, cur, rfl, hB, hg, hn, hm, _⟩
 ·omega
 ·exact ⟨g, cap, rfl, hB, (Array.getElem?_eq_some_iff.1 hg).1, hn, by unfold maxLen at hm; omega⟩
theorem OwnI.nil {w : World} {B : Nat} : OwnI w B (.slice none 0 0) [] := World.ownsRow_nil _ _ _ _
end
section
open Go.RowKit
theorem grown_trans {a b c : World} {row : Option Nat} (h : a.grownBy b row) (k : b.grownBy c row) : a.grownBy c row :=
 ⟨k.os.trans h.os, k.tape.trans h.tape, k.output.trans h.output, Nat.le_trans h.size k.size, fun i hi hne => (k.block i (Nat.lt_of_lt_of_le hi h.size) hne).trans (h.block i hi hne)⟩
theorem grown_drewN {a w : World} {row : Option Nat} (h : a.grownBy w row) (n : Nat) : a.grownBy (w.drewN n) row := ⟨h.os, h.tape, h.output, h.size, h.block⟩
theorem grown_put {a w : World} {g : Nat} (h : a.grownBy w (some g)) (i : Nat) (u : Value) : a.grownBy (w.setCell ⟨g, i, none⟩ u) (some g) :=
 ⟨h.os, h.tape, h.output, by simpa [World.setCell] using h.size, fun k hk hne => (Below.heap_setCell w ⟨g, i, none⟩ u k (by rintro rfl; exact hne rfl)).trans (h.block k hk hne)⟩
theorem OwnI.grown {w w' : World} {B gc : Nat} {v : Value} {xs : List Int} (h : OwnI w B v xs) (hg : w.grownBy w' (some gc)) (hB : gc < B) : OwnI w' B v xs :=
 h.keepB fun b hb hl => hg.block b hl (by simp; omega)
theorem grown_below {a w w' : World} {row : Option Nat} (h : a.grownBy w row) (hb : Below a.heap.size w w') : a.grownBy w' row :=
 ⟨hb.os.trans h.os, hb.tape.trans h.tape, hb.output.trans h.output, Nat.le_trans h.size hb.size, fun k hk hne => (hb.block k hk).trans (h.block k hk hne)⟩
end
section
open Go.RowKit
set_option maxHeartbeats 400000 in
theorem l1Own_any {S : Nat → Prop} (v : Value) (xs : List Int) (w : World) (h : IntsR w S v xs) (hn : xs.length ≤ 2097152) :
 Calls Tryz.prog 82 #[v] w (RetI w xs) := by
 have HR := Lib.hid h
 clear h
 go_enter Tryz.func82, Tryz.ntmps82
 go_wp2_with (at_builtin; refine wpList_append_ints _ rfl (.tmp 3) (.tmp 4) rfl w.heap.size _ [] rfl (OwnI.made _ rfl (Nat.le_refl _)) _ xs rfl (HR.out.below ((Below.refl _ _).alloc (Nat.le_refl _) _)) (by simp; omega) (by simp) ?_)
 intro A c w' ho hg
 have HO := Lib.hid ho
 have HB := Lib.hid (below_grown ((Below.refl w.heap.size w).alloc (Nat.le_refl _) (Obj.cells #[] 3)) (OwnI.made #[] rfl (Nat.le_refl _)) hg (by simp))
 clear ho hg
 go_wp2_with fail
 go_ret
 exact ⟨_, rfl, by simpa using HO.out, HB.out⟩
end
section
open Go.RowKit
def pc (es : List (Int × Int)) : List Value := es.flatMap fun e => [.int .i64 e.1, .int .i64 e.2]
theorem pc_length (es : List (Int × Int)) : (pc es).length = es.length * 2 := by
 induction es with
 | nil => rfl
 | cons e es ih => simp only [pc, List.flatMap_cons, List.length_append, List.length_cons, List.length_nil] at ih ⊢; omega
theorem pc_append (es fs : List (Int × Int)) : pc (es ++ fs) = pc es ++ pc fs := by simp [pc]
theorem pc_get {es : List (Int × Int)} {j : Nat} (h : j < es.length) : (pc es)[j * 2]? = some (.int .i64 (gp es j).1) ∧ (pc es)[j * 2 + 1]? = some (.int .i64 (gp es j).2) := by
 induction es generalizing j with
 | nil => simp at h
 | cons e es ih =>
  rcases j with _ | j
  ·simp [pc, gp]
  ·have hj : j < es.length := by simpa using h
   have := ih hj
   have e1 : pc (e :: es) = .int .i64 e.1 :: .int .i64 e.2 :: pc es := by simp [pc]
   rw [e1, show (j + 1) * 2 = j * 2 + 1 + 1 by omega]
   simp only [List.getElem?_cons_succ, gp, List.getD_cons_succ]
   exact this
theorem pc_one {es : List (Int × Int)} : ∀ v ∈ pc es, v.oneCell' = true := by
 intro v hv
 simp only [pc, List.mem_flatMap] at hv
 obtain ⟨e, _, h⟩ := hv
 simp at h
 rcases h with rfl | rfl <;> rfl
theorem OwnI.keepO {w w' : World} {B : Nat} {v : Value} {xs : List Int} (h : OwnI w B v xs) (hk : ∀ b, v.ownBlock = some b → w'.heap[b]? = w.heap[b]?) : OwnI w' B v xs := by
 obtain ⟨h1, h2⟩ := h
 refine ⟨h1, ?_⟩
 rcases h2 with h2 | ⟨g, cap, cur, rfl, hB, hg, h⟩
 ·exact .inl h2
 ·exact .inr ⟨g, cap, cur, rfl, hB, (hk g rfl).trans hg, h⟩
theorem OwnI.blk {w : World} {B : Nat} {v : Value} {xs : List Int} (h : OwnI w B v xs) : ∀ g, v.ownBlock = some g → B ≤ g ∧ g < w.heap.size := fun g hg => World.ownsRow.lt h g hg
def set3 (w : World) (p : Nat) (x y z : Value) : World := ((w.setCell ⟨p, 0, none⟩ x).setCell ⟨p, 1, none⟩ y).setCell ⟨p, 2, none⟩ z
theorem set3_block (w : World) (p : Nat) (x y z : Value) {b : Nat} (h : b ≠ p) : (set3 w p x y z).heap[b]? = w.heap[b]? :=
 ((Below.heap_setCell _ _ _ b h).trans (Below.heap_setCell _ _ _ b h)).trans (Below.heap_setCell _ _ _ b h)
theorem set3_blk {w : World} {p : Nat} {t : TypeId} {a b c x y z : Value} (h : Blk w p t #[a, b, c]) : Blk (set3 w p x y z) p t #[x, y, z] := ((h.put 0 x).put 1 y).put 2 z
theorem set3_below {B p : Nat} {a w : World} (h : Below B a w) (hp : B ≤ p) (x y z : Value) : Below B a (set3 w p x y z) := ((h.setCell hp _).setCell hp _).setCell hp _
def OwnE (w : World) (B : Nat) (v : Value) (es : List (Int × Int)) : Prop := w.ownsRow B 69 2 v es.length (pc es)
section
variable {w w' : World} {B B' : Nat} {v : Value} {es : List (Int × Int)}
theorem OwnE.keepB (h : OwnE w B v es) (hk : ∀ b, v.ownBlock = some b → w'.heap[b]? = w.heap[b]?) : OwnE w' B v es := by
 obtain ⟨h1, h2⟩ := h
 refine ⟨h1, ?_⟩
 rcases h2 with h2 | ⟨g, cap, cur, rfl, hB, hg, h⟩
 ·exact .inl h2
 ·exact .inr ⟨g, cap, cur, rfl, hB, (hk g rfl).trans hg, h⟩
theorem OwnE.lt (h : OwnE w B v es) : ∀ g, v.ownBlock = some g → B ≤ g ∧ g < w.heap.size := fun g hg => World.ownsRow.lt h g hg
theorem OwnE.below (h : OwnE w B v es) (hb : Below w.heap.size w w') : OwnE w' B v es := h.keepB fun b hv => hb.block b (h.lt b hv).2
theorem OwnE.grown {gc : Nat} (h : OwnE w B v es) (hg : w.grownBy w' (some gc)) (hB : gc < B) : OwnE w' B v es := h.keepB fun b hv => hg.block b (h.lt b hv).2 (by have := (h.lt b hv).1; simp; omega)
theorem OwnE.mono (h : OwnE w B v es) (hB : B' ≤ B) : OwnE w B' v es := by
 obtain ⟨h1, h2⟩ := h
 refine ⟨h1, ?_⟩
 rcases h2 with h2 | ⟨g, cap, cur, hv, hb, h⟩
 ·exact .inl h2
 ·exact .inr ⟨g, cap, cur, hv, by omega, h⟩
theorem OwnE.shape (h : OwnE w B v es) : ∃ A c, v = .slice A es.length c := by
 rcases h.2 with ⟨rfl, hn⟩ | ⟨g, cap, cur, rfl, _⟩
 ·exact ⟨none, 0, by rw [hn]⟩
 ·exact ⟨_, _, rfl⟩
theorem OwnE.nil : OwnE w B (.slice none 0 0) [] := World.ownsRow_nil _ _ _ _
theorem OwnE.made (cs : Array Value) (hc : cs.size = 0) (hB : B ≤ w.heap.size) : OwnE (w.alloc (.cells cs 69)) B (.slice (some ⟨w.heap.size, 0, none⟩) 0 0) [] :=
 World.ownsRow_made w cs 0 hB (by simp [maxLen]) (by simpa using hc)
theorem OwnE.type (h : OwnE w B v es) : ∀ g, v.ownBlock = some g → ∃ cs, w.heap[g]? = some (.cells cs 69 (0, 0)) := by
 intro g hg
 rcases h.2 with ⟨rfl, hn⟩ | ⟨g', cap, cur, rfl, hB, hh, _⟩
 ·cases hg
 ·cases hg; exact ⟨cur, hh⟩
theorem OwnE.addr (h : OwnE w B v es) (hp : 0 < es.length) : ∃ g cap, v = .slice (some ⟨g, 0, none⟩) es.length cap ∧ B ≤ g ∧ g < w.heap.size ∧ es.length ≤ cap ∧ cap ≤ maxLen := by
 rcases h.2 with ⟨rfl, h0⟩ | ⟨g, cap, cur, rfl, hB, hg, hn, hm, _⟩
 ·omega
 ·exact ⟨g, cap, rfl, hB, (Array.getElem?_eq_some_iff.1 hg).1, hn, hm⟩
theorem OwnE.at_ {g n cap j : Nat} (h : OwnE w B (.slice (some ⟨g, 0, none⟩) n cap) es) (hj : j < es.length) :
 (w.cell? ⟨g, j * 2, none⟩ = some (.int .i64 (gp es j).1) ∧ w.cell? ⟨g, j * 2 + 1, none⟩ = some (.int .i64 (gp es j).2)) ∧ (∀ i, w.frozen? ⟨g, i, none⟩ = false) := by
 rcases h.2 with ⟨h1, _⟩ | ⟨g', cap', cur, hv, hB, hg, hn, hm, hs, ht⟩
 ·cases h1
 ·cases hv
  refine ⟨?_, fun i => World.ownsRow.frozenAt h i⟩
  have hl := h.1
  rw [pc_length] at hl
  obtain ⟨p1, p2⟩ := pc_get hj
  rw [← ht, List.getElem?_take_of_lt (by omega)] at p1 p2
  rw [cell_of_row w g (j * 2) cur _ (0, 0) hg, cell_of_row w g (j * 2 + 1) cur _ (0, 0) hg]
  exact ⟨by simpa using p1, by simpa using p2⟩
theorem OwnE.len {g n cap : Nat} (h : OwnE w B (.slice (some ⟨g, 0, none⟩) n cap) es) : n = es.length := by
 rcases h.2 with ⟨h1, _⟩ | ⟨g', cap', cur, hv, _⟩
 ·cases h1
 ·cases hv; rfl
theorem OwnE.ends {S : Nat → Prop} (h : OwnE w B v es) (hS : ∀ b, B ≤ b → b < w.heap.size → S b) : EndsR w S v es := by
 rcases h.2 with ⟨rfl, hn⟩ | ⟨g, cap, cur, rfl, hB, hg, hnc, hm, hs, ht⟩
 ·exact ⟨none, 0, by rw [hn], by omega, by simp [maxLen], fun h => absurd h (by omega)⟩
 ·refine ⟨_, cap, rfl, hnc, hm, fun hp => ⟨g, 0, rfl, hS g hB (Array.getElem?_eq_some_iff.1 hg).1, fun j hj => ?_⟩⟩
  have := (h.at_ hj).1
  rw [Nat.zero_add]
  exact this
end
def OwnEs (w : World) (B : Nat) (v : Value) (ess : List (List (Int × Int))) : Prop :=
 ∃ us : Nat → Value, w.ownsRow B 67 1 v ess.length ((List.range ess.length).map us) ∧ (∀ i, i < ess.length → OwnE w B (us i) (gl ess i)) ∧
  ∀ i j, i < ess.length → j < ess.length → i ≠ j → ∀ g, (us i).ownBlock = some g → (us j).ownBlock ≠ some g
section
variable {w w' : World} {B B' : Nat} {v : Value} {ess : List (List (Int × Int))}
theorem OwnEs.keepB (h : OwnEs w B v ess) (hk : ∀ b, B ≤ b → b < w.heap.size → w'.heap[b]? = w.heap[b]?) : OwnEs w' B v ess := by
 obtain ⟨us, h1, h2, h3⟩ := h
 refine ⟨us, ⟨h1.1, ?_⟩, fun i hi => (h2 i hi).keepB fun b hb => hk b ((h2 i hi).lt b hb).1 ((h2 i hi).lt b hb).2, h3⟩
 rcases h1.2 with h4 | ⟨g, cap, cur, rfl, hB, hg, hr⟩
 ·exact .inl h4
 ·exact .inr ⟨g, cap, cur, rfl, hB, (hk g hB (Array.getElem?_eq_some_iff.1 hg).1).trans hg, hr⟩
theorem OwnEs.below (h : OwnEs w B v ess) (hb : Below w.heap.size w w') : OwnEs w' B v ess := h.keepB fun b _ hl => hb.block b hl
theorem OwnEs.grown {gc : Nat} (h : OwnEs w B v ess) (hg : w.grownBy w' (some gc)) (hB : gc < B) : OwnEs w' B v ess := h.keepB fun b hb hl => hg.block b hl (by simp; omega)
theorem OwnEs.mono (h : OwnEs w B v ess) (hB : B' ≤ B) : OwnEs w B' v ess := by
 obtain ⟨us, h1, h2, h3⟩ := h
 refine ⟨us, ⟨h1.1, ?_⟩, fun i hi => (h2 i hi).mono hB, h3⟩
 rcases h1.2 with h4 | ⟨g, cap, cur, hv, hb, hr⟩
 ·exact .inl h4
 ·exact .inr ⟨g, cap, cur, hv, by omega, hr⟩
theorem OwnEs.shape (h : OwnEs w B v ess) : ∃ A c, v = .slice A ess.length c := by
 obtain ⟨us, h1, _⟩ := h
 rcases h1.2 with ⟨rfl, hn⟩ | ⟨g, cap, cur, rfl, _⟩
 ·exact ⟨none, 0, by rw [hn]⟩
 ·exact ⟨_, _, rfl⟩
theorem OwnEs.nil : OwnEs w B (.slice none 0 0) [] := ⟨fun _ => .slice none 0 0, World.ownsRow_nil _ _ _ _, fun _ hi => absurd hi (Nat.not_lt_zero _), fun _ _ hi => absurd hi (Nat.not_lt_zero _)⟩
theorem range_get {us : Nat → Value} {n j : Nat} (h : j < n) : ((List.range n).map us)[j]? = some (us j) := by simp [h]
theorem OwnEs.at_ {us : Nat → Value} {g cap j m : Nat} (h : w.ownsRow B 67 1 (.slice (some ⟨g, 0, none⟩) m cap) m ((List.range m).map us)) (hj : j < m) : w.cell? ⟨g, j, none⟩ = some (us j) ∧ w.frozen? ⟨g, j, none⟩ = false :=
 ⟨(World.ownsRow.cellAt h j (by rw [Nat.mul_one]; exact hj)).trans (range_get hj), World.ownsRow.frozenAt h j⟩
theorem OwnEs.ends {S : Nat → Prop} (h : OwnEs w B v ess) (hS : ∀ b, B ≤ b → b < w.heap.size → S b) : EndSSR w S v ess := by
 obtain ⟨us, h1, h2, h3⟩ := h
 rcases h1.2 with ⟨rfl, hn⟩ | ⟨g, cap, cur, rfl, hB, hg, hnc, hm, hs, ht⟩
 ·exact ⟨none, 0, by rw [hn], by omega, by simp [maxLen], fun h => absurd h (by omega)⟩
 ·refine ⟨_, cap, rfl, hnc, hm, fun hp => ⟨g, 0, rfl, hS g hB (Array.getElem?_eq_some_iff.1 hg).1, fun j hj => ⟨us j, ?_, (h2 j hj).ends hS⟩⟩⟩
  rw [Nat.zero_add]
  exact (OwnEs.at_ h1 hj).1
end
def KeptBut (T : TypeId) (w w' : World) : Prop := ∀ (b : Nat) (cs : Array Value) (t : TypeId) (fr : Nat × Nat), w.heap[b]? = some (.cells cs t fr) → t ≠ T → w'.heap[b]? = w.heap[b]?
theorem KeptBut.trans {T : TypeId} {a b c : World} (h : KeptBut T a b) (k : KeptBut T b c) : KeptBut T a c := fun x cs t fr hx ht => (k x cs t fr ((h x cs t fr hx ht).trans hx) ht).trans (h x cs t fr hx ht)
theorem KeptBut.of_below {T : TypeId} {w w' : World} (h : Below w.heap.size w w') : KeptBut T w w' := fun b _ _ _ hx _ => h.block b (Array.getElem?_eq_some_iff.1 hx).1
theorem KeptBut.of_grown {T : TypeId} {w w' : World} {row : Option Nat} (h : w.grownBy w' row) (hr : ∀ g, row = some g → ∃ cs fr, w.heap[g]? = some (.cells cs T fr)) : KeptBut T w w' := fun b cs t fr hx ht =>
 h.block b (Array.getElem?_eq_some_iff.1 hx).1 (fun e => by
  obtain ⟨cs', fr', h1⟩ := hr b e.symm
  rw [hx] at h1
  simp at h1
  exact ht h1.2.1)
theorem KeptBut.of_set {T : TypeId} {w : World} {p : Addr} {cs : Array Value} {fr : Nat × Nat} (h : w.heap[p.block]? = some (.cells cs T fr)) (u : Value) : KeptBut T w (w.setCell p u) := fun b cs' t fr' hx ht =>
 Below.heap_setCell w p u b (fun e => by
  rw [e, h] at hx
  simp at hx
  exact ht hx.2.1.symm)
theorem OwnI.but {T : TypeId} {w w' : World} {B : Nat} {v : Value} {xs : List Int} (h : OwnI w B v xs) (hk : KeptBut T w w') (hT : 3 ≠ T) : OwnI w' B v xs := by
 obtain ⟨h1, h2⟩ := h
 refine ⟨h1, ?_⟩
 rcases h2 with h2 | ⟨g, cap, cur, rfl, hB, hg, h⟩
 ·exact .inl h2
 ·exact .inr ⟨g, cap, cur, rfl, hB, (hk g _ _ _ hg hT).trans hg, h⟩
theorem OwnE.but {T : TypeId} {w w' : World} {B : Nat} {v : Value} {es : List (Int × Int)} (h : OwnE w B v es) (hk : KeptBut T w w') (hT : 69 ≠ T) : OwnE w' B v es := by
 obtain ⟨h1, h2⟩ := h
 refine ⟨h1, ?_⟩
 rcases h2 with h2 | ⟨g, cap, cur, rfl, hB, hg, h⟩
 ·exact .inl h2
 ·exact .inr ⟨g, cap, cur, rfl, hB, (hk g _ _ _ hg hT).trans hg, h⟩
theorem OwnEs.but {T : TypeId} {w w' : World} {B : Nat} {v : Value} {ess : List (List (Int × Int))} (h : OwnEs w B v ess) (hk : KeptBut T w w') (hT : 69 ≠ T) (hT2 : 67 ≠ T) : OwnEs w' B v ess := by
 obtain ⟨us, h1, h2, h3⟩ := h
 refine ⟨us, ⟨h1.1, ?_⟩, fun i hi => (h2 i hi).but hk hT, h3⟩
 rcases h1.2 with h4 | ⟨g, cap, cur, rfl, hB, hg, hr⟩
 ·exact .inl h4
 ·exact .inr ⟨g, cap, cur, rfl, hB, (hk g _ _ _ hg hT2).trans hg, hr⟩
theorem rowType {w : World} {B : Nat} {t : TypeId} {sz : Nat} {v : Value} {n : Nat} {xs : List Value} (h : w.ownsRow B t sz v n xs) : ∀ g, v.ownBlock = some g → ∃ cs fr, w.heap[g]? = some (.cells cs t fr) := fun g hg => by
 rcases h.2 with ⟨rfl, _⟩ | ⟨g', cap, cur, rfl, _, hh, _⟩
 ·cases hg
 ·cases hg; exact ⟨cur, _, hh⟩
theorem OwnI.fresh {w : World} {B : Nat} {v : Value} {xs : List Int} (h : OwnI w B v xs) : ∀ g, v.ownBlock = some g → ∃ cs fr, w.heap[g]? = some (.cells cs 3 fr) := rowType h
def OwnNt (w : World) (B : Nat) (v : Value) (N : Net) : Prop :=
 ∃ ve vi vn, v = .agg #[ve, vi, vn] ∧ OwnEs w B ve N.ends ∧ OwnI w B vi N.ids ∧ OwnI w B vn N.inputs ∧ ∀ g, vi.ownBlock = some g → vn.ownBlock ≠ some g
section
variable {w w' : World} {B B' : Nat} {v : Value} {N : Net}
theorem OwnNt.keepB (h : OwnNt w B v N) (hk : ∀ b, B ≤ b → b < w.heap.size → w'.heap[b]? = w.heap[b]?) : OwnNt w' B v N := by
 obtain ⟨ve, vi, vn, rfl, h1, h2, h3, h4⟩ := h
 exact ⟨ve, vi, vn, rfl, h1.keepB hk, h2.keepB hk, h3.keepB hk, h4⟩
theorem OwnNt.below (h : OwnNt w B v N) (hb : Below w.heap.size w w') : OwnNt w' B v N := h.keepB fun b _ hl => hb.block b hl
theorem OwnNt.grown {gc : Nat} (h : OwnNt w B v N) (hg : w.grownBy w' (some gc)) (hB : gc < B) : OwnNt w' B v N := h.keepB fun b hb hl => hg.block b hl (by simp; omega)
theorem OwnNt.mono (h : OwnNt w B v N) (hB : B' ≤ B) : OwnNt w B' v N := by
 obtain ⟨ve, vi, vn, rfl, h1, h2, h3, h4⟩ := h
 exact ⟨ve, vi, vn, rfl, h1.mono hB, h2.mono hB, h3.mono hB, h4⟩
theorem OwnNt.parts (h : OwnNt w B v N) : ∃ A c A1 c1 A2 c2, v = .agg #[.slice A N.ends.length c, .slice A1 N.ids.length c1, .slice A2 N.inputs.length c2] := by
 obtain ⟨ve, vi, vn, rfl, h1, h2, h3, _⟩ := h
 obtain ⟨A, c, rfl⟩ := h1.shape
 obtain ⟨A1, c1, rfl⟩ := h2.shape
 obtain ⟨A2, c2, rfl⟩ := h3.shape
 exact ⟨A, c, A1, c1, A2, c2, rfl⟩
end
def RetNt (w : World) (N : Net) (e : Ending) (w' : World) : Prop := ∃ v, e = .returned v ∧ OwnNt w' w.heap.size v N ∧ Below w.heap.size w w'
theorem endInf : (Tryz.prog.info? 69).map (fun i => (i.zero, i.size, i.bytes)) = some (some (.agg #[.int .i64 0, .int .i64 0]), 2, 16) := by kernel_rfl
theorem endsInf : (Tryz.prog.info? 67).map (fun i => (i.zero, i.size, i.bytes)) = some (some (.slice none 0 0), 1, 24) := by kernel_rfl
end
section
open Go.RowKit
def Lies (w : World) (v v' : Value) : Prop := ∀ g, v'.ownBlock = some g → v.ownBlock = some g ∨ g = w.heap.size
theorem run_append_ends {S : Nat → Prop} (w : World) (ty : TypeId) (B : Nat) (v : Value) (xs : List (Int × Int)) (hown : OwnE w B v xs) (u : Value) (ys : List (Int × Int)) (hu : EndsR w S u ys) (hn : xs.length + ys.length ≤ 1048576) (hB : B ≤ w.heap.size) :
 ∃ A c w', (Builtin.append_ #[67, 67] ty #[v, u]).run Tryz.prog w = .ok (.slice A (xs.length + ys.length) c) w' ∧ OwnE w' B (.slice A (xs.length + ys.length) c) (xs ++ ys) ∧ w.grownBy w' v.ownBlock ∧ Lies w v (.slice A (xs.length + ys.length) c) := by
 obtain ⟨i0, hi, hz0, hz1, hz2⟩ := info_parts endInf
 obtain ⟨A, c, rfl, hnc, hm, hc⟩ := hu
 rcases A with _ | ad
 ·have h0 : ys.length = 0 := by
   rcases Nat.eq_zero_or_pos ys.length with h | h
   ·exact h
   ·obtain ⟨b, off, hA, _⟩ := hc h
    cases hA
  obtain rfl : ys = [] := List.eq_nil_of_length_eq_zero h0
  obtain ⟨A, c', rfl⟩ := hown.shape
  refine ⟨A, c', w, ?_, by simpa using hown, World.grownBy.refl _ _, fun g hg => .inl hg⟩
  rcases hown.2 with ⟨h1, h0⟩ | ⟨g, cap, cur, h1, _, _, hnc, _⟩
  ·obtain rfl : xs = [] := List.eq_nil_of_length_eq_zero h0
   cases h1
   simp [Builtin.append_, run_underlying Tryz.underlying67, sizeOf, typeInfo, hi, Builtin.lenOf, Builtin.firstCells]
  ·cases h1
   simp [Builtin.append_, run_underlying Tryz.underlying67, sizeOf, typeInfo, hi, Builtin.lenOf, Builtin.firstCells, hnc, storeCells]
 ·obtain ⟨v', w', hr, h2, h3, h4, h5⟩ := run_append_own_at (P := Tryz.prog) w B 67 ty 69 i0 _ 2 16 Tryz.underlying67 hi hz0 hz1 hz2 rfl (by omega) v xs.length (pc xs) hown ad ys.length c (pc ys) (pc_length ys) (by
   intro j q hq
   have hjl : j < ys.length * 2 := by
    have := (List.getElem?_eq_some_iff.1 hq).1
    rw [pc_length] at this; exact this
   obtain ⟨b, off, hA, -, hcell⟩ := hc (by omega)
   have hA' := Option.some.inj hA
   rw [hA', addr_add]
   obtain ⟨k, hk⟩ : ∃ k, j = k * 2 ∨ j = k * 2 + 1 := ⟨j / 2, by omega⟩
   rcases hk with rfl | rfl
   ·have := (pc_get (es := ys) (j := k) (by omega)).1
    rw [this] at hq
    rw [← Option.some.inj hq]
    exact (hcell k (by omega)).1
   ·have := (pc_get (es := ys) (j := k) (by omega)).2
    rw [this] at hq
    rw [← Option.some.inj hq]
    exact (hcell k (by omega)).2) pc_one (by unfold maxLen; omega) (by omega) hB
  have ho2 : OwnE w' B v' (xs ++ ys) := by
   unfold OwnE
   rw [List.length_append, pc_append]; exact h2
  obtain ⟨A', c', rfl⟩ := ho2.shape
  rw [List.length_append] at hr ho2 h5
  refine ⟨A', c', w', hr, ho2, h3, fun g hg => ?_⟩
  rcases h5 with h5 | h5
  ·exact .inl (h5 ▸ hg)
  ·rw [hg] at h5; exact .inr (Option.some.inj h5)
theorem step_append_ends {S : Nat → Prop} (w : World) {ops : Array Oper} {o : Oper} {a : Act} {K : Act → World → Prop} {Q : Exit → Act → World → Prop} {E : Prop} (hgd : o.guard = none) (s x : Operand)
 (ho : o.op = .call { callee := .builtin .append, args := #[s, x], argTypes := #[67, 67] })
 (B : Nat) (v : Value) (xs : List (Int × Int)) (hs : a.eval s = v) (hown : OwnE w B v xs) (u : Value) (ys : List (Int × Int)) (hx : a.eval x = u) (hu : EndsR w S u ys) (hn : xs.length + ys.length ≤ 1048576) (hB : B ≤ w.heap.size)
 (h : ∀ A c w', OwnE w' B (.slice A (xs.length + ys.length) c) (xs ++ ys) → w.grownBy w' v.ownBlock → Lies w v (.slice A (xs.length + ys.length) c) → K (a.put o.dst (.slice A (xs.length + ys.length) c)) w') :
 if Region.wanted o (yielded ops a.tmps) = true then Oper.wp Tryz.prog o a w K Q else E := by
 have hw : Region.wanted o (yielded ops a.tmps) = true := by simp [Region.wanted, hgd]
 rw [if_pos hw]
 obtain ⟨A, c, w', hr, h2, h3, h4⟩ := run_append_ends w o.type B v xs hown u ys hu hn hB
 unfold Oper.wp execOp
 simp only [ho, resolve, invoke, builtin, Sem.run_bind, Sem.run_pure, Result.andThen_ok, List.map_toArray, List.map_cons, List.map_nil, hs, hx, hr]
 exact h A c w' h2 h3 h4
theorem EndsR.one {w : World} {g : Nat} {t : TypeId} {a b : Int} (h : Blk w g t #[.int .i64 a, .int .i64 b]) : EndsR w (fun _ => True) (.slice (some ⟨g, 0, none⟩) 1 1) [(a, b)] :=
 ⟨_, 1, rfl, Nat.le_refl _, by simp [maxLen], fun _ => ⟨g, 0, rfl, trivial, fun j hj => by
  obtain rfl : j = 0 := by simpa using hj
  rw [h.cell, h.cell]
  exact ⟨rfl, rfl⟩⟩⟩
theorem run_append_slice (w : World) (ty : TypeId) (B : Nat) (v : Value) (n : Nat) (us : List Value) (hown : w.ownsRow B 67 1 v n us) (g : Nat) (A1 : Option Addr) (n1 c1 : Nat) (hg : Blk w g 67 #[.slice A1 n1 c1]) (hn : n ≤ 1048576) (hB : B ≤ w.heap.size) :
 ∃ A c w', (Builtin.append_ #[24, 24] ty #[v, .slice (some ⟨g, 0, none⟩) 1 1]).run Tryz.prog w = .ok (.slice A (n + 1) c) w' ∧ w'.ownsRow B 67 1 (.slice A (n + 1) c) (n + 1) (us ++ [.slice A1 n1 c1]) ∧ w.grownBy w' v.ownBlock ∧ Lies w v (.slice A (n + 1) c) := by
 obtain ⟨i0, hi, hz0, hz1, hz2⟩ := info_parts endsInf
 obtain ⟨v', w', hr, h2, h3, h4, h5⟩ := run_append_own_at (P := Tryz.prog) w B 24 ty 67 i0 _ 1 24 Tryz.underlying24 hi hz0 hz1 hz2 rfl (by omega) v n us hown ⟨g, 0, none⟩ 1 1 [.slice A1 n1 c1] rfl (by
  intro j q hq
  rcases j with _ | j
  ·simp at hq; subst hq
   rw [addr_add, hg.cell]; rfl
  ·simp at hq) (by simp [Value.oneCell']) (by unfold maxLen; omega) (by omega) hB
 rcases h2.2 with ⟨_, h0⟩ | ⟨g', cap, cur, rfl, hrest⟩
 ·omega
 ·refine ⟨_, cap, w', hr, h2, h3, fun k hk => ?_⟩
  rcases h5 with h5 | h5
  ·exact .inl (h5 ▸ hk)
  ·rw [hk] at h5; exact .inr (Option.some.inj h5)
theorem step_append_slice (w : World) {ops : Array Oper} {o : Oper} {a : Act} {K : Act → World → Prop} {Q : Exit → Act → World → Prop} {E : Prop} (hgd : o.guard = none) (s x : Operand)
 (ho : o.op = .call { callee := .builtin .append, args := #[s, x], argTypes := #[24, 24] })
 (B : Nat) (v : Value) (n : Nat) (us : List Value) (hs : a.eval s = v) (hown : w.ownsRow B 67 1 v n us) (g : Nat) (A1 : Option Addr) (n1 c1 : Nat) (hx : a.eval x = .slice (some ⟨g, 0, none⟩) 1 1) (hg : Blk w g 67 #[.slice A1 n1 c1]) (hn : n ≤ 1048576) (hB : B ≤ w.heap.size)
 (h : ∀ A c w', w'.ownsRow B 67 1 (.slice A (n + 1) c) (n + 1) (us ++ [.slice A1 n1 c1]) → w.grownBy w' v.ownBlock → Lies w v (.slice A (n + 1) c) → K (a.put o.dst (.slice A (n + 1) c)) w') :
 if Region.wanted o (yielded ops a.tmps) = true then Oper.wp Tryz.prog o a w K Q else E := by
 have hw : Region.wanted o (yielded ops a.tmps) = true := by simp [Region.wanted, hgd]
 rw [if_pos hw]
 obtain ⟨A, c, w', hr, h2, h3, h4⟩ := run_append_slice w o.type B v n us hown g A1 n1 c1 hg hn hB
 unfold Oper.wp execOp
 simp only [ho, resolve, invoke, builtin, Sem.run_bind, Sem.run_pure, Result.andThen_ok, List.map_toArray, List.map_cons, List.map_nil, hs, hx, hr]
 exact h A c w' h2 h3 h4
end
section
open Go.RowKit
structure Enc (α : Type) where
 k : Nat
 enc : α → List Value
 len : ∀ x, (enc x).length = k
 pos : 0 < k
 one : ∀ x, ∀ v ∈ enc x, v.oneCell' = true
variable {α : Type}
section
variable [Inhabited α]
def ga (xs : List α) (j : Nat) : α := xs.getD j default
end
def Enc.cells (E : Enc α) (xs : List α) : List Value := xs.flatMap E.enc
theorem Enc.cells_length (E : Enc α) (xs : List α) : (E.cells xs).length = xs.length * E.k := by
 induction xs with
 | nil => simp [Enc.cells]
 | cons x xs ih => simp only [Enc.cells, List.flatMap_cons, List.length_append, List.length_cons, E.len] at ih ⊢; rw [ih, Nat.add_mul, Nat.one_mul, Nat.add_comm]
theorem Enc.cells_get [Inhabited α] (E : Enc α) {xs : List α} {j i : Nat} (hj : j < xs.length) (hi : i < E.k) : (E.cells xs)[j * E.k + i]? = (E.enc (ga xs j))[i]? := by
 induction xs generalizing j with
 | nil => simp at hj
 | cons x xs ih =>
  have e1 : E.cells (x :: xs) = E.enc x ++ E.cells xs := by simp [Enc.cells]
  rw [e1]
  rcases j with _ | j
  ·rw [Nat.zero_mul, Nat.zero_add, List.getElem?_append_left (by rw [E.len]; exact hi)]; simp [ga]
  ·have h1 : (j + 1) * E.k + i = E.k + (j * E.k + i) := by rw [Nat.add_mul, Nat.one_mul]; omega
   rw [h1, List.getElem?_append_right (by rw [E.len]; omega), E.len, Nat.add_sub_cancel_left, ih (by simpa using hj)]
   simp [ga]
def SlR [Inhabited α] (E : Enc α) (w : World) (S : Nat → Prop) (v : Value) (xs : List α) : Prop :=
 ∃ A c, v = .slice A xs.length c ∧ xs.length ≤ c ∧ c ≤ maxLen ∧
  (0 < xs.length → ∃ b off, A = some ⟨b, off, none⟩ ∧ S b ∧ b < w.heap.size ∧ ∀ j, j < xs.length → ∀ i, i < E.k → w.cell? ⟨b, off + j * E.k + i, none⟩ = (E.enc (ga xs j))[i]?)
section
variable [Inhabited α] {E : Enc α} {w w' : World} {S S' : Nat → Prop} {v : Value} {xs : List α}
theorem SlR.keep (h : SlR E w S v xs) (hS : ∀ b, S b → S' b) (hs : w.heap.size ≤ w'.heap.size) (hk : ∀ b, S b → b < w.heap.size → w'.heap[b]? = w.heap[b]?) : SlR E w' S' v xs := by
 obtain ⟨A, c, hv, h1, h2, h3⟩ := h
 refine ⟨A, c, hv, h1, h2, fun hn => ?_⟩
 obtain ⟨b, off, hA, hb, hl, hc⟩ := h3 hn
 exact ⟨b, off, hA, hS b hb, by omega, fun j hj i hi => (World.cell?_of_block (hk b hb hl)).trans (hc j hj i hi)⟩
theorem SlR.below (h : SlR E w S v xs) (hb : Below w.heap.size w w') : SlR E w' S v xs := h.keep (fun _ h => h) hb.size fun b _ hl => hb.block b hl
theorem SlR.weak (h : SlR E w S v xs) (hS : ∀ b, S b → S' b) : SlR E w S' v xs := h.keep hS (Nat.le_refl _) fun _ _ _ => rfl
theorem SlR.nil : SlR E w S (.slice none 0 0) [] := ⟨none, 0, rfl, Nat.le_refl _, by simp [maxLen], fun h => absurd h (Nat.lt_irrefl _)⟩
theorem SlR.bound (h : SlR E w S v xs) : xs.length ≤ 9223372036854775807 := by
 obtain ⟨A, c, hv, h1, h2, h3⟩ := h
 unfold maxLen at h2; omega
end
def OwnG (E : Enc α) (T : TypeId) (w : World) (B : Nat) (v : Value) (xs : List α) : Prop := w.ownsRow B T E.k v xs.length (E.cells xs)
section
variable {E : Enc α} {T : TypeId} {w w' : World} {B B' : Nat} {v : Value} {xs : List α}
theorem OwnG.keepB (h : OwnG E T w B v xs) (hk : ∀ b, v.ownBlock = some b → w'.heap[b]? = w.heap[b]?) : OwnG E T w' B v xs := by
 obtain ⟨h1, h2⟩ := h
 refine ⟨h1, ?_⟩
 rcases h2 with h2 | ⟨g, cap, cur, rfl, hB, hg, h⟩
 ·exact .inl h2
 ·exact .inr ⟨g, cap, cur, rfl, hB, (hk g rfl).trans hg, h⟩
theorem OwnG.lt (h : OwnG E T w B v xs) : ∀ g, v.ownBlock = some g → B ≤ g ∧ g < w.heap.size := fun g hg => World.ownsRow.lt h g hg
theorem OwnG.below (h : OwnG E T w B v xs) (hb : Below w.heap.size w w') : OwnG E T w' B v xs := h.keepB fun b hv => hb.block b (h.lt b hv).2
theorem OwnG.grown {gc : Nat} (h : OwnG E T w B v xs) (hg : w.grownBy w' (some gc)) (hB : gc < B) : OwnG E T w' B v xs := h.keepB fun b hv => hg.block b (h.lt b hv).2 (by have := (h.lt b hv).1; simp; omega)
theorem OwnG.mono (h : OwnG E T w B v xs) (hB : B' ≤ B) : OwnG E T w B' v xs := by
 obtain ⟨h1, h2⟩ := h
 refine ⟨h1, ?_⟩
 rcases h2 with h2 | ⟨g, cap, cur, hv, hb, h⟩
 ·exact .inl h2
 ·exact .inr ⟨g, cap, cur, hv, by omega, h⟩
theorem OwnG.shape (h : OwnG E T w B v xs) : ∃ A c, v = .slice A xs.length c := by
 rcases h.2 with ⟨rfl, hn⟩ | ⟨g, cap, cur, rfl, _⟩
 ·exact ⟨none, 0, by rw [hn]⟩
 ·exact ⟨_, _, rfl⟩
theorem OwnG.nil : OwnG E T w B (.slice none 0 0) [] := World.ownsRow_nil _ _ _ _
theorem OwnG.made (cs : Array Value) (hc : cs.size = 0) (hB : B ≤ w.heap.size) : OwnG E T (w.alloc (.cells cs T)) B (.slice (some ⟨w.heap.size, 0, none⟩) 0 0) [] :=
 World.ownsRow_made w cs 0 hB (by simp [maxLen]) (by simpa using hc)
theorem OwnG.type (h : OwnG E T w B v xs) : ∀ g, v.ownBlock = some g → ∃ cs, w.heap[g]? = some (.cells cs T (0, 0)) := by
 intro g hg
 rcases h.2 with ⟨rfl, hn⟩ | ⟨g', cap, cur, rfl, hB, hh, _⟩
 ·cases hg
 ·cases hg; exact ⟨cur, hh⟩
theorem OwnG.addr (h : OwnG E T w B v xs) (hp : 0 < xs.length) : ∃ g cap, v = .slice (some ⟨g, 0, none⟩) xs.length cap ∧ B ≤ g ∧ g < w.heap.size ∧ xs.length ≤ cap ∧ cap ≤ maxLen := by
 rcases h.2 with ⟨rfl, h0⟩ | ⟨g, cap, cur, rfl, hB, hg, hn, hm, _⟩
 ·omega
 ·exact ⟨g, cap, rfl, hB, (Array.getElem?_eq_some_iff.1 hg).1, hn, hm⟩
theorem OwnG.at_ [Inhabited α] {g n cap j : Nat} (h : OwnG E T w B (.slice (some ⟨g, 0, none⟩) n cap) xs) (hj : j < xs.length) :
 (∀ i, i < E.k → w.cell? ⟨g, j * E.k + i, none⟩ = (E.enc (ga xs j))[i]?) ∧ (∀ i, w.frozen? ⟨g, i, none⟩ = false) := by
 rcases h.2 with ⟨h1, _⟩ | ⟨g', cap', cur, hv, hB, hg, hn, hm, hs, ht⟩
 ·cases h1
 ·cases hv
  refine ⟨fun i hi => ?_, fun i => World.ownsRow.frozenAt h i⟩
  have hl := h.1
  rw [E.cells_length] at hl
  have p1 := E.cells_get hj hi
  have hlt : j * E.k + i < xs.length * E.k := by
   have : (j + 1) * E.k ≤ xs.length * E.k := Nat.mul_le_mul_right _ hj
   rw [Nat.add_mul, Nat.one_mul] at this; omega
  rw [← ht, List.getElem?_take_of_lt (by omega)] at p1
  rw [cell_of_row w g (j * E.k + i) cur _ (0, 0) hg]
  simpa using p1
end
structure ElemT (P : Program) (E : Enc α) (st T : TypeId) where
 i : TypeInfo
 z : Value
 bytes : Nat
 ht : P.underlying st = some (.slice T)
 hi : P.info? T = some i
 hz : i.zero = some z
 hsize : i.size = E.k
 hby : i.bytes = bytes
 hzs : z.cells.size = E.k
 small : bytes ≤ 4096
theorem ElemT.of {P : Program} {E : Enc α} {st T : TypeId} {z : Value} {n bytes : Nat} (ht : P.underlying st = some (.slice T)) (hinf : (P.info? T).map (fun i => (i.zero, i.size, i.bytes)) = some (some z, n, bytes)) (hn : n = E.k) (hzs : z.cells.size = E.k) (hs : bytes ≤ 4096) : Nonempty (ElemT P E st T) := by
 obtain ⟨i0, hi, hz0, hz1, hz2⟩ := info_parts hinf
 exact ⟨⟨i0, z, bytes, ht, hi, hz0, hz1.trans hn, hz2, hzs, hs⟩⟩
section
variable [Inhabited α] {P : Program} {E : Enc α} {st T : TypeId}
end
theorem SlR.one [Inhabited α] {E : Enc α} {w : World} {g : Nat} {t : TypeId} {x : α} (h : Blk w g t (E.enc x).toArray) : SlR E w (fun _ => True) (.slice (some ⟨g, 0, none⟩) 1 1) [x] :=
 ⟨_, 1, rfl, Nat.le_refl _, by simp [maxLen], fun _ => ⟨g, 0, rfl, trivial, h.lt, fun j hj i hi => by
  obtain rfl : j = 0 := by simpa using hj
  rw [Nat.zero_mul, Nat.zero_add, h.cell]
  simp [ga]⟩⟩
def encP : Enc Nat := ⟨1, fun q => [.pointer (some ⟨q, 0, none⟩)], fun _ => rfl, by omega, fun x v hv => by simp at hv; subst hv; rfl⟩
end
section
open Go.RowKit
theorem OwnEs.of_rowIs {w : World} {B g n : Nat} (h : w.rowIs g 67 n (fun _ => .slice none 0 0)) (hB : B ≤ g) (hm : n ≤ maxLen) : OwnEs w B (.slice (some ⟨g, 0, none⟩) n n) (List.replicate n []) := by
 obtain ⟨c, hc, hs, hf⟩ := h
 refine ⟨fun _ => .slice none 0 0, ?_, fun i _ => by rw [gl_replicate]; exact OwnE.nil, fun _ _ _ _ _ g hg => by cases hg⟩
 rw [List.length_replicate]
 refine ⟨by simp, .inr ⟨g, n, c, rfl, hB, hc, Nat.le_refl _, hm, by omega, ?_⟩⟩
 apply List.ext_getElem?
 intro i
 by_cases hi : i < n
 ·rw [List.getElem?_take_of_lt (by omega), range_get hi]
  simpa using hf i hi
 ·rw [List.getElem?_eq_none (by simp; omega), List.getElem?_eq_none (by simp; omega)]
end
section
open Go.RowKit
theorem l1In_any (n lo hi : Int) (w : World) :
 Calls Tryz.prog 74 #[.int .i64 n, .int .i64 lo, .int .i64 hi] w (RetQ w (.bool (inB n lo hi))) := by
 by_cases h1 : lo ≤ n
 ·have e1 : decide (lo ≤ n) = true := by simp [h1]
  by_cases h2 : n ≤ hi
  ·have HE : Hid (inB n lo hi = true) := by simp [Hid, inB, h1, h2]
   go_enter Tryz.func74, Tryz.ntmps74
   go_wp2
   go_ret
   exact ⟨by rw [HE.out]; rfl, rfl⟩
  ·have HE : Hid (inB n lo hi = false) := by simp [Hid, inB, h2]
   have e2 : decide (n ≤ hi) = false := by simp [h2]
   go_enter Tryz.func74, Tryz.ntmps74
   go_wp2
   go_ret
   exact ⟨by rw [HE.out]; rfl, rfl⟩
 ·have HE : Hid (inB n lo hi = false) := by simp [Hid, inB, h1]
  have e1 : decide (lo ≤ n) = false := by simp [h1]
  go_enter Tryz.func74, Tryz.ntmps74
  go_wp2
  go_ret
  exact ⟨by rw [HE.out]; rfl, rfl⟩
set_option maxHeartbeats 400000 in
theorem l1Has_any {S : Nat → Prop} (v : Value) (xs : List Int) (n : Int) (w : World) (h : IntsR w S v xs) :
 Calls Tryz.prog 110 #[v, .int .i64 n] w (RetQ w (.bool (hasB xs n))) := by
 have hb := h.bound
 obtain ⟨A, c, rfl, hnc, hm, hx⟩ := h
 have HX := Lib.hid hx
 clear hx
 go_enter Tryz.func110, Tryz.ntmps110
 go_wp2
 go_loop [9] (fun i => ∃ k : Nat, k ≤ xs.length ∧ i = .int .i64 k ∧ ∀ j, j < k → gi xs j ≠ n) (fun i => xs.length - (intOf i).toNat)
 case atStart => exact ⟨0, Nat.zero_le _, rfl, fun j hj => absurd hj (Nat.not_lt_zero _)⟩
 case round =>
  obtain ⟨k, hk, rfl, hs⟩ := hrel
  have HS := Lib.hid hs
  clear hs
  by_cases hlt : k < xs.length
  ·obtain ⟨b, off, rfl, -, hc⟩ := HX.out (by omega)
   have h1 := hc k hlt
   clear hc
   by_cases he : gi xs k = n
   ·have HT := Lib.hid (hasB_of_lt hlt he)
    have e2 : (gi xs k == n) = true := by simp [he]
    clear he
    go_wp2
    go_ret
    exact ⟨by rw [HT.out]; rfl, rfl⟩
   ·have e2 : (gi xs k == n) = false := by simp [he]
    have HE := Lib.hid he
    clear he
    go_wp2
    go_round
    case rel =>
     refine ⟨k + 1, by omega, by go_num, fun j hj => ?_⟩
     by_cases h1 : j = k
     ·subst h1; exact HE.out
     ·exact HS.out j (by omega)
    case measure => simp [intOf]; omega
  ·have HT : Hid (hasB xs n = false) := hasB_false_all.2 fun j hj => HS.out j (by omega)
   go_wp2
   go_ret
   exact ⟨by rw [HT.out]; rfl, rfl⟩
set_option maxHeartbeats 400000 in
theorem l1All_any {S : Nat → Prop} (v : Value) (xs : List Int) (lo hi : Int) (w : World) (h : IntsR w S v xs) :
 Calls Tryz.prog 50 #[v, .int .i64 lo, .int .i64 hi] w (RetQ w (.bool (allB xs lo hi))) := by
 have hb := h.bound
 obtain ⟨A, c, rfl, hnc, hm, hx⟩ := h
 have HX := Lib.hid hx
 clear hx
 go_enter Tryz.func50, Tryz.ntmps50
 go_wp2
 go_loop [11] (fun i => ∃ k : Nat, k ≤ xs.length ∧ i = .int .i64 k ∧ ∀ j, j < k → inB (gi xs j) lo hi = true) (fun i => xs.length - (intOf i).toNat)
 case atStart => exact ⟨0, Nat.zero_le _, rfl, fun j hj => absurd hj (Nat.not_lt_zero _)⟩
 case round =>
  obtain ⟨k, hk, rfl, hs⟩ := hrel
  have HS := Lib.hid hs
  clear hs
  by_cases hlt : k < xs.length
  ·obtain ⟨b, off, rfl, -, hc⟩ := HX.out (by omega)
   have h1 := hc k hlt
   clear hc
   cases he : inB (gi xs k) lo hi
   ·have HT : Hid (allB xs lo hi = false) := by
     show _ = false
     rw [← Bool.not_eq_true, allB_iff]
     intro h; have := h k hlt; rw [he] at this; cases this
    have HE := Lib.hid he
    clear he
    go_wp2_with (go_at_call 74; refine (l1In_any _ _ _ _).mono ?_; rintro e w1 ⟨rfl, rfl⟩; rw [HE.out])
    go_ret
    exact ⟨by rw [HT.out]; rfl, rfl⟩
   ·have HE := Lib.hid he
    clear he
    go_wp2_with (go_at_call 74; refine (l1In_any _ _ _ _).mono ?_; rintro e w1 ⟨rfl, rfl⟩; rw [HE.out])
    go_round
    case rel =>
     refine ⟨k + 1, by omega, by go_num, fun j hj => ?_⟩
     by_cases h1 : j = k
     ·subst h1; exact HE.out
     ·exact HS.out j (by omega)
    case measure => simp [intOf]; omega
  ·have HT : Hid (allB xs lo hi = true) := allB_iff.2 fun j hj => HS.out j (by omega)
   go_wp2
   go_ret
   exact ⟨by rw [HT.out]; rfl, rfl⟩
theorem IntsR.take {w : World} {S : Nat → Prop} {A : Option Addr} {c k : Nat} {xs : List Int} (h : 0 < xs.length → ∃ b off, A = some ⟨b, off, none⟩ ∧ S b ∧ ∀ j, j < xs.length → w.cell? ⟨b, off + j, none⟩ = some (.int .i64 (gi xs j)))
 (hk : k ≤ xs.length) (hc : xs.length ≤ c) (hm : c ≤ maxLen) : IntsR w S (.slice A k c) (xs.take k) := by
 have hl : (xs.take k).length = k := by simp [hk]
 refine ⟨A, c, by rw [hl], by omega, hm, fun hn => ?_⟩
 obtain ⟨b, off, hA, hS, hcell⟩ := h (by omega)
 refine ⟨b, off, hA, hS, fun j hj => ?_⟩
 rw [hcell j (by omega)]
 simp [gi, show j < k by omega]
set_option maxRecDepth 100000 in
set_option maxHeartbeats 800000 in
theorem neIds_any {S : Nat → Prop} (v : Value) (xs : List Int) (n : Int) (w : World) (h : IntsR w S v xs) :
 Calls Tryz.prog 132 #[v, .int .i64 n] w (RetQ w (.bool (idsB xs n))) := by
 have hb := h.bound
 obtain ⟨A, c, rfl, hnc, hm, hx⟩ := h
 have HX := Lib.hid hx
 have HM := Lib.hid hm
 clear hx hm
 go_enter Tryz.func132, Tryz.ntmps132
 go_wp2
 go_loop [9] (fun i => ∃ k : Nat, k ≤ xs.length ∧ i = .int .i64 k ∧ idsUpto xs k) (fun i => xs.length - (intOf i).toNat)
 case atStart => exact ⟨0, Nat.zero_le _, rfl, fun j hj => absurd hj (Nat.not_lt_zero _)⟩
 case round =>
  obtain ⟨k, hk, rfl, hs⟩ := hrel
  have HS := Lib.hid hs
  clear hs
  by_cases hlt : k < xs.length
  ·have HR := Lib.hid (IntsR.take HX.out hk hnc HM.out)
   obtain ⟨b, off, rfl, -, hc⟩ := HX.out (by omega)
   have h1 := hc k hlt
   clear hc
   have hck : (k : Int) ≤ (c : Int) := by omega
   cases he : inB (gi xs k) 1 999999
   ·have HT : Hid (idsB xs n = false) := by
     simp only [Hid, idsB, Bool.and_eq_false_iff, decide_eq_false_iff_not]
     refine .inl fun h => ?_
     have := (h k hlt).1; rw [he] at this; cases this
    have HE := Lib.hid he
    clear he
    go_wp2_with (go_at_call 74; refine (l1In_any _ _ _ _).mono ?_; rintro e w1 ⟨rfl, rfl⟩; rw [HE.out])
    go_ret
    exact ⟨by rw [HT.out]; rfl, rfl⟩
   ·have HE := Lib.hid he
    clear he
    cases hh : hasB (xs.take k) (gi xs k)
    ·have HH := Lib.hid hh
     clear hh
     go_wp2_with (first | (go_at_call 74; refine (l1In_any _ _ _ _).mono ?_; rintro e w1 ⟨rfl, rfl⟩; rw [HE.out]) | (go_at_call 110; refine (l1Has_any _ _ _ _ HR.out).mono ?_; rintro e w1 ⟨rfl, rfl⟩; rw [HH.out]))
     go_round
     case rel =>
      refine ⟨k + 1, by omega, by go_num, fun j hj => ?_⟩
      by_cases h1 : j = k
      ·subst h1; exact ⟨HE.out, HH.out⟩
      ·exact HS.out j (by omega)
     case measure => simp [intOf]; omega
    ·have HT : Hid (idsB xs n = false) := by
      simp only [Hid, idsB, Bool.and_eq_false_iff, decide_eq_false_iff_not]
      refine .inl fun h => ?_
      have := (h k hlt).2; rw [hh] at this; cases this
     have HH := Lib.hid hh
     clear hh
     go_wp2_with (first | (go_at_call 74; refine (l1In_any _ _ _ _).mono ?_; rintro e w1 ⟨rfl, rfl⟩; rw [HE.out]) | (go_at_call 110; refine (l1Has_any _ _ _ _ HR.out).mono ?_; rintro e w1 ⟨rfl, rfl⟩; rw [HH.out]))
     go_ret
     exact ⟨by rw [HT.out]; rfl, rfl⟩
  ·obtain rfl : k = xs.length := by omega
   have HT : Hid (idsB xs n = (xs.length == 0 || (xs.length : Int) == n)) := by
    simp only [Hid, idsB]
    have h2 : ∀ i, i < xs.length → inB (gi xs i) 1 999999 = true ∧ hasB (xs.take i) (gi xs i) = false := HS.out
    rw [decide_eq_true h2, Bool.true_and]
   by_cases h0 : xs.length = 0
   ·have e0 : ((xs.length : Int) == 0) = true := by simp [h0]
    have HV : Hid ((xs.length == 0 || (xs.length : Int) == n) = true) := by simp [Hid, h0]
    clear h0
    go_wp2
    go_ret
    exact ⟨by rw [HT.out, HV.out]; rfl, rfl⟩
   ·have e0 : ((xs.length : Int) == 0) = false := by simp; exact fun h => h0 (by simp [h])
    by_cases h2 : (xs.length : Int) = n
    ·have e2 : ((xs.length : Int) == n) = true := by simp [h2]
     have HV : Hid ((xs.length == 0 || (xs.length : Int) == n) = true) := by simp [Hid, h2]
     clear h0 h2
     go_wp2
     go_ret
     exact ⟨by rw [HT.out, HV.out]; rfl, rfl⟩
    ·have e2 : ((xs.length : Int) == n) = false := by simp [h2]
     have HV : Hid ((xs.length == 0 || (xs.length : Int) == n) = false) := by simp [Hid, h0, h2]
     clear h0 h2
     go_wp2
     go_ret
     exact ⟨by rw [HT.out, HV.out]; rfl, rfl⟩
end
section
open Go.RowKit
theorem l1Most_any (a b : Int) (w : World) : Calls Tryz.prog 95 #[.int .i64 a, .int .i64 b] w (RetQ w (.int .i64 (max a b))) := by
 by_cases h : b < a
 ·have HE : Hid (max a b = a) := Int.max_eq_left (by omega)
  go_enter Tryz.func95, Tryz.ntmps95
  go_wp2
  go_ret
  exact ⟨by rw [HE.out]; rfl, rfl⟩
 ·have HE : Hid (max a b = b) := Int.max_eq_right (by omega)
  go_enter Tryz.func95, Tryz.ntmps95
  go_wp2
  go_ret
  exact ⟨by rw [HE.out]; rfl, rfl⟩
end
section
open Go.RowKit
def zs (ps : List Nat) : List Int := ps.map Int.ofNat
instance : Inhabited VT := ⟨.mk 0 0 [] []⟩
mutual
def TreeR (w : World) (S : Nat → Prop) : VT → Nat → Prop
 | .mk d i ps ts, b => S b ∧ b < w.heap.size ∧ ∃ vp vt qs, w.cell? ⟨b, 0, none⟩ = some (.int .i64 d) ∧ w.cell? ⟨b, 1, none⟩ = some (.int .i64 i) ∧ w.cell? ⟨b, 2, none⟩ = some vp ∧ w.cell? ⟨b, 3, none⟩ = some vt ∧
  w.cell? ⟨b, 4, none⟩ = some (.int .i64 (deps ts : Nat)) ∧ IntsR w S vp (zs ps) ∧ SlR encP w S vt qs ∧ TreesR w S ts qs
def TreesR (w : World) (S : Nat → Prop) : List VT → List Nat → Prop
 | [], qs => qs = []
 | t :: ts, qs => ∃ q rs, qs = q :: rs ∧ TreeR w S t q ∧ TreesR w S ts rs
end
section
variable {w w' : World} {S S' : Nat → Prop}
theorem IntsR.sized {v : Value} {xs : List Int} (h : IntsR w S v xs) : IntsR w (fun b => S b ∧ b < w.heap.size) v xs := by
 obtain ⟨A, c, hv, h1, h2, h3⟩ := h
 refine ⟨A, c, hv, h1, h2, fun hn => ?_⟩
 obtain ⟨b, off, hA, hb, hc⟩ := h3 hn
 exact ⟨b, off, hA, ⟨hb, lt_of_cell (hc 0 hn)⟩, hc⟩
theorem SlR.sized {α : Type} [Inhabited α] {E : Enc α} {v : Value} {xs : List α} (h : SlR E w S v xs) : SlR E w (fun b => S b ∧ b < w.heap.size) v xs := by
 obtain ⟨A, c, hv, h1, h2, h3⟩ := h
 refine ⟨A, c, hv, h1, h2, fun hn => ?_⟩
 obtain ⟨b, off, hA, hb, hl, hc⟩ := h3 hn
 exact ⟨b, off, hA, ⟨hb, hl⟩, hl, hc⟩
mutual
theorem TreeR.keep (hS : ∀ b, S b → b < w.heap.size → S' b) (hs : w.heap.size ≤ w'.heap.size) (hk : ∀ b, S b → b < w.heap.size → w'.heap[b]? = w.heap[b]?) : ∀ (t : VT) (b : Nat), TreeR w S t b → TreeR w' S' t b
 | .mk d i ps ts, b, h => by
  simp only [TreeR] at h ⊢
  obtain ⟨hb, hl, vp, vt, qs, c0, c1, c2, c3, c4, hp, ht, hr⟩ := h
  have hc : ∀ j, w'.cell? ⟨b, j, none⟩ = w.cell? ⟨b, j, none⟩ := fun j => World.cell?_of_block (hk b hb hl)
  exact ⟨hS b hb hl, by omega, vp, vt, qs, (hc 0).trans c0, (hc 1).trans c1, (hc 2).trans c2, (hc 3).trans c3, (hc 4).trans c4, hp.sized.keep (fun b h => hS b h.1 h.2) (fun b h _ => hk b h.1 h.2), ht.sized.keep (fun b h => hS b h.1 h.2) hs (fun b h _ => hk b h.1 h.2), TreesR.keep hS hs hk ts qs hr⟩
theorem TreesR.keep (hS : ∀ b, S b → b < w.heap.size → S' b) (hs : w.heap.size ≤ w'.heap.size) (hk : ∀ b, S b → b < w.heap.size → w'.heap[b]? = w.heap[b]?) : ∀ (ts : List VT) (qs : List Nat), TreesR w S ts qs → TreesR w' S' ts qs
 | [], qs, h => by simpa [TreesR] using h
 | t :: ts, qs, h => by
  simp only [TreesR] at h ⊢
  obtain ⟨q, rs, rfl, h1, h2⟩ := h
  exact ⟨q, rs, rfl, TreeR.keep hS hs hk t q h1, TreesR.keep hS hs hk ts rs h2⟩
end
theorem TreeR.below {t : VT} {b : Nat} (h : TreeR w S t b) (hb : Below w.heap.size w w') : TreeR w' S t b := TreeR.keep (fun _ h _ => h) hb.size (fun b _ hl => hb.block b hl) t b h
theorem TreesR.below {ts : List VT} {qs : List Nat} (h : TreesR w S ts qs) (hb : Below w.heap.size w w') : TreesR w' S ts qs := TreesR.keep (fun _ h _ => h) hb.size (fun b _ hl => hb.block b hl) ts qs h
theorem TreeR.weak {t : VT} {b : Nat} (h : TreeR w S t b) (hS : ∀ b, S b → S' b) : TreeR w S' t b := TreeR.keep (fun b h _ => hS b h) (Nat.le_refl _) (fun _ _ _ => rfl) t b h
theorem TreesR.len {ts : List VT} {qs : List Nat} (h : TreesR w S ts qs) : qs.length = ts.length := by
 induction ts generalizing qs with
 | nil => simp only [TreesR] at h; simp [h]
 | cons t ts ih =>
  simp only [TreesR] at h
  obtain ⟨q, rs, rfl, h1, h2⟩ := h
  simp [ih h2]
theorem TreesR.at_ {ts : List VT} {qs : List Nat} {j : Nat} (h : TreesR w S ts qs) (hj : j < ts.length) : TreeR w S (ga ts j) (ga qs j) := by
 induction ts generalizing qs j with
 | nil => simp at hj
 | cons x ts ih =>
  simp only [TreesR] at h
  obtain ⟨p, rs, rfl, h1, h2⟩ := h
  cases j with
  | zero => simpa [ga] using h1
  | succ j =>
   have := ih h2 (j := j) (by simpa using hj)
   simpa [ga] using this
theorem TreeR.deg {t : VT} {b : Nat} (h : TreeR w S t b) : w.cell? ⟨b, 0, none⟩ = some (.int .i64 (t.deg : Nat)) ∧ w.cell? ⟨b, 4, none⟩ = some (.int .i64 (t.dep : Nat)) ∧ S b ∧ b < w.heap.size := by
 obtain ⟨d, i, ps, ts⟩ := t
 simp only [TreeR] at h
 obtain ⟨hb, hl, vp, vt, qs, c0, c1, c2, c3, c4, _⟩ := h
 exact ⟨c0, by rw [dep_mk]; exact c4, hb, hl⟩
end
end
section
open Go.RowKit
end
section
end
section
end
section
structure Fine (N : Net) : Prop where
 sym : Sym N.ends
 deg : ∀ v, v < N.ends.length → dg N.ends v ≤ 6
 inp : ∀ v, v < N.ends.length → 0 ≤ gi N.inputs v ∧ gi N.inputs v ≤ 9
theorem goodB_fine {N : Net} (h : goodB N = true) : Fine N := by
 obtain ⟨h1, -, h3, h4, h5⟩ := goodB_iff.1 h
 obtain ⟨h6, h7⟩ := endsOk_iff.1 h5
 refine ⟨h7, h6, fun v hv => ?_⟩
 have := inB_iff.1 (allB_iff.1 h4 v (by omega))
 exact this
theorem Fine.union {M N : Net} (hM : Fine M) (hN : Fine N) (h1 : M.inputs.length = M.ends.length) : Fine (unionN M N) := by
 have hl : (unionN M N).ends.length = M.ends.length + N.ends.length := unionE_len _ _
 refine ⟨hM.sym.union hN.sym, fun v hv => ?_, fun v hv => ?_⟩
 ·rw [hl] at hv
  show (gl (unionE M.ends N.ends) v).length ≤ 6
  by_cases h : v < M.ends.length
  ·rw [unionE_gl1 h]; exact hM.deg v h
  ·obtain ⟨u, rfl⟩ : ∃ u, v = M.ends.length + u := ⟨v - M.ends.length, by omega⟩
   rw [unionE_gl2 (by omega)]
   have := hN.deg u (by omega)
   unfold dg at this
   simpa [shiftE] using this
 ·rw [hl] at hv
  show 0 ≤ gi (M.inputs ++ N.inputs) v ∧ gi (M.inputs ++ N.inputs) v ≤ 9
  by_cases h : v < M.ends.length
  ·have e : gi (M.inputs ++ N.inputs) v = gi M.inputs v := by
    unfold gi
    rw [List.getD_eq_getElem?_getD, List.getD_eq_getElem?_getD, List.getElem?_append_left (by omega)]
   rw [e]; exact hM.inp v h
  ·obtain ⟨u, rfl⟩ : ∃ u, v = M.ends.length + u := ⟨v - M.ends.length, by omega⟩
   have e : gi (M.inputs ++ N.inputs) (M.ends.length + u) = gi N.inputs u := by
    unfold gi
    rw [List.getD_eq_getElem?_getD, List.getD_eq_getElem?_getD, List.getElem?_append_right (by omega), h1]
    congr 2; omega
   rw [e]; exact hN.inp u (by omega)
theorem Fine.at_ {N : Net} (h : Fine N) {v : Nat} (hv : v < N.ends.length) {e : Int × Int} (he : e ∈ gl N.ends v) : ∃ q j : Nat, e = ((q : Int), (j : Int)) ∧ q < N.ends.length ∧ j < (gl N.ends q).length ∧ j ≤ 5 := by
 obtain ⟨i, hi, rfl⟩ := List.getElem_of_mem he
 obtain ⟨q, j, e1, hq, hj, -⟩ := h.sym v i hv hi
 unfold pt at e1
 rw [gp_lt hi] at e1
 have := h.deg q hq
 exact ⟨q, j, e1, hq, hj, by omega⟩
section
variable {N : Net}
end
section
variable {M N : Net}
end
end
end Go.Proofs.YtlaahgdikiiahaaGreat
