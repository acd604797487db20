/- A node of a view that is being read: its block, its ports, its parts, the reader beside it. No program's function in sight. -/
import Derived.Test.YtclkboemgneojaaTv
import Derived.Test.YtclkboemgneojaaOw5
namespace Go.Proofs.Ytclkboemgneojaa
open Go.RowKit

/-- w: the world as the call began. vp0, vt0: what the node's fields hold; vp, vt: the slices as they have grown -/
structure NodeSt (TR TN TP : TypeId) (w : World) (gr p : Nat) (rd : Array Value) (d i dp : Int) (vp0 vt0 vp vt : Value) (ps qs rs : List Nat) (ts : List VT) (wr : World) : Prop where
  rdr : Blk wr gr TR rd
  grl : gr < w.heap.size
  grw : w.grownBy wr (some gr)
  node : Blk wr p TN #[.int .i64 d, .int .i64 i, vp0, vt0, .int .i64 dp]
  hp : w.heap.size ≤ p
  own1 : OwnI wr w.heap.size vp (zs ps)
  own2 : OwnG encP TP wr w.heap.size vt qs
  apart : ∀ g, vp.ownBlock = some g → vt.ownBlock ≠ some g
  far1 : vp.ownBlock ≠ some p
  far2 : vt.ownBlock ≠ some p
  trees : TreesR wr (fun b => w.heap.size ≤ b ∧ b ≠ p ∧ vp.ownBlock ≠ some b ∧ vt.ownBlock ≠ some b) ts rs
theorem ga_left {α : Type} [Inhabited α] {xs ys : List α} {j : Nat} (h : j < xs.length) : ga (xs ++ ys) j = ga xs j := by
  unfold ga; rw [List.getD_eq_getElem?_getD, List.getD_eq_getElem?_getD, List.getElem?_append_left h]
theorem ga_right {α : Type} [Inhabited α] {xs : List α} {y : α} : ga (xs ++ [y]) xs.length = y := by simp [ga]
section
variable {TR TN TP : TypeId} {w wr w' : World} {gr p : Nat} {rd : Array Value} {d i dp : Int} {vp0 vt0 vp vt : Value} {ps qs rs : List Nat} {ts : List VT}
theorem NodeSt.below (h : NodeSt TR TN TP w gr p rd d i dp vp0 vt0 vp vt ps qs rs ts wr) (hb : Below wr.heap.size wr w') : NodeSt TR TN TP w gr p rd d i dp vp0 vt0 vp vt ps qs rs ts w' := by
  have h2 := h.trees
  exact ⟨h.rdr.below hb, h.grl, ⟨hb.os.trans h.grw.os, hb.tape.trans h.grw.tape, hb.output.trans h.grw.output, Nat.le_trans h.grw.size hb.size, fun k hk hne => (hb.block k (Nat.lt_of_lt_of_le hk h.grw.size)).trans (h.grw.block k hk hne)⟩,
    h.node.below hb, h.hp, h.own1.below hb, h.own2.below hb, h.apart, h.far1, h.far2, h2.below hb⟩
theorem NodeSt.app1 (h : NodeSt TR TN TP w gr p rd d i dp vp0 vt0 vp vt ps qs rs ts wr) {vp' : Value} {j : Nat} (ho : OwnI w' w.heap.size vp' (zs ps ++ [(j : Int)])) (hg : wr.grownBy w' vp.ownBlock) (hl : Lies wr vp vp') :
    NodeSt TR TN TP w gr p rd d i dp vp0 vt0 vp' vt (ps ++ [j]) qs rs ts w' := by
  have h2 := h.trees
  have hlt := h.own1.blk
  have hsz : w.heap.size ≤ wr.heap.size := h.grw.size
  have hpl : p < wr.heap.size := h.node.lt
  have ne : ∀ k, k < w.heap.size → some k ≠ vp.ownBlock := fun k hk e => by have := (hlt k e.symm).1; omega
  have far1' : vp'.ownBlock ≠ some p := fun e => by
    rcases hl p e with h3 | h3
    · exact h.far1 h3
    · omega
  refine ⟨(hg.block gr (by have := h.grl; omega) (ne gr h.grl)).trans h.rdr, h.grl, ?_, (hg.block p hpl (fun e => h.far1 e.symm)).trans h.node, h.hp, by rw [zs_snoc]; exact ho, ?_, ?_, far1', h.far2, ?_⟩
  · exact ⟨hg.os.trans h.grw.os, hg.tape.trans h.grw.tape, hg.output.trans h.grw.output, Nat.le_trans hsz hg.size, fun k hk hne => (hg.block k (by omega) (ne k hk)).trans (h.grw.block k hk hne)⟩
  · exact h.own2.keepB fun b hb => hg.block b (h.own2.lt b hb).2 fun e => h.apart b e.symm hb
  · intro g h3 h4
    rcases hl g h3 with h5 | h5
    · exact h.apart g h5 h4
    · have := (h.own2.lt g h4).2; omega
  · refine TreesR.keep (fun b hb hbl => ⟨hb.1, hb.2.1, fun e => ?_, hb.2.2.2⟩) hg.size (fun b hb hbl => hg.block b hbl (fun e => hb.2.2.1 e.symm)) ts rs h2
    rcases hl b e with h5 | h5
    · exact hb.2.2.1 h5
    · omega
theorem NodeSt.app2 (h : NodeSt TR TN TP w gr p rd d i dp vp0 vt0 vp vt ps qs rs ts wr) {vt' : Value} {q : Nat} (ho : OwnG encP TP w' w.heap.size vt' (qs ++ [q])) (hg : wr.grownBy w' vt.ownBlock) (hl : Lies wr vt vt') :
    NodeSt TR TN TP w gr p rd d i dp vp0 vt0 vp vt' ps (qs ++ [q]) rs ts w' := by
  have h2 := h.trees
  have hlt := h.own2.lt
  have hsz : w.heap.size ≤ wr.heap.size := h.grw.size
  have hpl : p < wr.heap.size := h.node.lt
  have ne : ∀ k, k < w.heap.size → some k ≠ vt.ownBlock := fun k hk e => by have := (hlt k e.symm).1; omega
  have far2' : vt'.ownBlock ≠ some p := fun e => by
    rcases hl p e with h3 | h3
    · exact h.far2 h3
    · omega
  refine ⟨(hg.block gr (by have := h.grl; omega) (ne gr h.grl)).trans h.rdr, h.grl, ?_, (hg.block p hpl (fun e => h.far2 e.symm)).trans h.node, h.hp, ?_, ho, ?_, h.far1, far2', ?_⟩
  · exact ⟨hg.os.trans h.grw.os, hg.tape.trans h.grw.tape, hg.output.trans h.grw.output, Nat.le_trans hsz hg.size, fun k hk hne => (hg.block k (by omega) (ne k hk)).trans (h.grw.block k hk hne)⟩
  · exact h.own1.keepO fun b hb => hg.block b (h.own1.blk b hb).2 fun e => h.apart b hb e.symm
  · intro g h3 h4
    rcases hl g h4 with h5 | h5
    · exact h.apart g h3 h5
    · have := (h.own1.blk g h3).2; omega
  · refine TreesR.keep (fun b hb hbl => ⟨hb.1, hb.2.1, hb.2.2.1, fun e => ?_⟩) hg.size (fun b hb hbl => hg.block b hbl (fun e => hb.2.2.2 e.symm)) ts rs h2
    rcases hl b e with h5 | h5
    · exact hb.2.2.2 h5
    · omega
/-- writes to the reader's block alone, and new blocks -/
theorem NodeSt.moved (h : NodeSt TR TN TP w gr p rd d i dp vp0 vt0 vp vt ps qs rs ts wr) {rd' : Array Value} (hr : Blk w' gr TR rd') (hg : wr.grownBy w' (some gr)) : NodeSt TR TN TP w gr p rd' d i dp vp0 vt0 vp vt ps qs rs ts w' := by
  have h2 := h.trees
  have hsz : w.heap.size ≤ wr.heap.size := h.grw.size
  have hgl := h.grl
  have ne : ∀ k, w.heap.size ≤ k → some k ≠ some gr := fun k hk e => by cases e; omega
  refine ⟨hr, h.grl, h.grw.trans hg, (hg.block p h.node.lt (ne p h.hp)).trans h.node, h.hp, h.own1.keepO fun b hb => hg.block b (h.own1.blk b hb).2 (ne b (h.own1.blk b hb).1), h.own2.keepB fun b hb => hg.block b (h.own2.lt b hb).2 (ne b (h.own2.lt b hb).1), h.apart, h.far1, h.far2, ?_⟩
  exact TreesR.keep (fun b hb _ => hb) hg.size (fun b hb hbl => hg.block b hbl (ne b hb.1)) ts rs h2
/-- stores into the node alone -/
theorem NodeSt.store (h : NodeSt TR TN TP w gr p rd d i dp vp0 vt0 vp vt ps qs rs ts wr) {d' i' dp' : Int} {x y : Value} (hn : Blk w' p TN #[.int .i64 d', .int .i64 i', x, y, .int .i64 dp']) (hg : wr.grownBy w' (some p)) : NodeSt TR TN TP w gr p rd d' i' dp' x y vp vt ps qs rs ts w' := by
  have h2 := h.trees
  have hsz : w.heap.size ≤ wr.heap.size := h.grw.size
  have hgl := h.grl
  have hpl := h.hp
  refine ⟨(hg.block gr (by omega) (fun e => by cases e; omega)).trans h.rdr, h.grl, ⟨hg.os.trans h.grw.os, hg.tape.trans h.grw.tape, hg.output.trans h.grw.output, Nat.le_trans hsz hg.size, fun k hk hne => (hg.block k (by omega) (fun e => by cases e; omega)).trans (h.grw.block k hk hne)⟩, hn, h.hp,
    h.own1.keepO fun b hb => hg.block b (h.own1.blk b hb).2 (fun e => h.far1 (e ▸ hb)), h.own2.keepB fun b hb => hg.block b (h.own2.lt b hb).2 (fun e => h.far2 (e ▸ hb)), h.apart, h.far1, h.far2, ?_⟩
  exact TreesR.keep (fun b hb _ => hb) hg.size (fun b hb hbl => hg.block b hbl (fun e => hb.2.1 (by cases e; rfl))) ts rs h2
theorem grown_set1 (w : World) (p o : Nat) (u : Value) : w.grownBy (w.setCell ⟨p, o, none⟩ u) (some p) := ⟨rfl, rfl, rfl, by simp, fun k _ hk => Below.heap_setCell w _ _ k (fun e => hk (by rw [e]))⟩
theorem NodeSt.put1 (h : NodeSt TR TN TP w gr p rd d i dp vp0 vt0 vp vt ps qs rs ts wr) (x : Int) : NodeSt TR TN TP w gr p rd d x dp vp0 vt0 vp vt ps qs rs ts (wr.setCell ⟨p, 1, none⟩ (.int .i64 x)) := h.store (h.node.put 1 (.int .i64 x)) (grown_set1 _ _ _ _)
theorem NodeSt.put4 (h : NodeSt TR TN TP w gr p rd d i dp vp0 vt0 vp vt ps qs rs ts wr) (x : Int) : NodeSt TR TN TP w gr p rd d i x vp0 vt0 vp vt ps qs rs ts (wr.setCell ⟨p, 4, none⟩ (.int .i64 x)) := h.store (h.node.put 4 (.int .i64 x)) (grown_set1 _ _ _ _)
theorem NodeSt.put23 (h : NodeSt TR TN TP w gr p rd d i dp vp0 vt0 vp vt ps qs rs ts wr) : NodeSt TR TN TP w gr p rd d i dp vp vt vp vt ps qs rs ts ((wr.setCell ⟨p, 2, none⟩ vp).setCell ⟨p, 3, none⟩ vt) :=
  (h.store (h.node.put 2 vp) (grown_set1 _ _ _ _)).store ((h.node.put 2 vp).put 3 vt) (grown_set1 _ _ _ _)
/-- one part more, read behind the node -/
theorem NodeSt.part (h : NodeSt TR TN TP w gr p rd d i dp vp0 vt0 vp vt ps qs rs ts wr) {rd' : Array Value} (hr : Blk w' gr TR rd') (hg : wr.grownBy w' (some gr)) {t : VT} {q : Nat} (ht : TreeR w' (fun b => wr.heap.size ≤ b) t q) :
    NodeSt TR TN TP w gr p rd' d i dp vp0 vt0 vp vt ps qs (rs ++ [q]) (ts ++ [t]) w' := by
  have h' := h.moved hr hg
  have hsz : w.heap.size ≤ wr.heap.size := h.grw.size
  have hpl := h.node.lt
  refine { h' with trees := h'.trees.snoc (ht.weak fun b hb => ⟨by omega, by omega, fun e => ?_, fun e => ?_⟩) }
  · have := (h.own1.blk b e).2; omega
  · have := (h.own2.lt b e).2; omega
/-- the node as a tree -/
theorem NodeSt.tree {d i : Nat} (h : NodeSt TR TN TP w gr p rd d i (deps ts : Nat) vp vt vp vt ps qs qs ts wr) : TreeR wr (fun b => w.heap.size ≤ b) (.mk d i ps ts) p := by
  have hc := h.node.cell
  simp only [TreeR]
  exact ⟨h.hp, h.node.lt, vp, vt, qs, by rw [hc]; rfl, by rw [hc]; rfl, by rw [hc]; rfl, by rw [hc]; rfl, by rw [hc]; rfl, h.own1.ints, h.own2.slrB, TreesR.keep (fun b hb _ => hb.1) (Nat.le_refl _) (fun _ _ _ => rfl) ts qs h.trees⟩
theorem NodeSt.alloc_ (h : NodeSt TR TN TP w gr p rd d i dp vp0 vt0 vp vt ps qs rs ts wr) {o : Obj} : NodeSt TR TN TP w gr p rd d i dp vp0 vt0 vp vt ps qs rs ts (wr.alloc o) := h.below ((Below.refl _ _).alloc (Nat.le_refl _) _)
theorem NodeSt.drew_ (h : NodeSt TR TN TP w gr p rd d i dp vp0 vt0 vp vt ps qs rs ts wr) : NodeSt TR TN TP w gr p rd d i dp vp0 vt0 vp vt ps qs rs ts wr.drew := h.below (Below.refl _ _).drew
/-- the new node -/
theorem NodeSt.new {w1 : World} {rd : Array Value} (hr : Blk w1 gr TR rd) (hl : gr < w.heap.size) (hg : w.grownBy w1 (some gr)) (d : Int) :
    NodeSt TR TN TP w gr w1.heap.size rd d 0 0 (.slice none 0 0) (.slice none 0 0) (.slice none 0 0) (.slice none 0 0) [] [] [] [] (w1.alloc (.cells #[.int .i64 d, .int .i64 0, .slice none 0 0, .slice none 0 0, .int .i64 0] TN)) := by
  refine ⟨hr.alloc _, hl, ⟨hg.os, hg.tape, hg.output, Nat.le_trans hg.size (by simp), fun k hk hne => (Below.heap_alloc w1 _ k (Nat.lt_of_lt_of_le hk hg.size)).trans (hg.block k hk hne)⟩, Blk.new _ _ _, hg.size, ?_, OwnG.nil, (fun g h => by cases h), (by simp [Value.ownBlock]), (by simp [Value.ownBlock]), rfl⟩
  exact World.ownsRow_nil _ _ _ _
end
end Go.Proofs.Ytclkboemgneojaa
