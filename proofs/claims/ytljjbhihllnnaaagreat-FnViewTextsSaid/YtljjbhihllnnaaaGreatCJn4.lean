/- Parts of the proof, joined: Tv2, Tab, Vt4, Ntx, Txp, Vtt. -/
import Derived.Test.YtljjbhihllnnaaaGreatCJn3
import Derived.Test.YtljjbhihllnnaaaGreatCJn2
import Derived.Test.YtljjbhihllnnaaaGreatCJn1
namespace Go.Proofs.YtljjbhihllnnaaaGreat
open Go.RowKit

/-- w: the world as the call began. vp0, vt0: what the node's fields hold; vp, vt: the slices as they have grown -/
structure NodeSt (TR TN TP : TypeId) (w : World) (gr p : Nat) (rd : Array Value) (d i dp : Int) (vp0 vt0 vp vt : Value) (ps qs rs : List Nat) (ts : List VT) (wr : World) : Prop where
  rdr : Blk wr gr TR rd
  grl : gr < w.heap.size
  grw : w.grownBy wr (some gr)
  node : Blk wr p TN #[.int .i64 d, .int .i64 i, vp0, vt0, .int .i64 dp]
  hp : w.heap.size ≤ p
  own1 : OwnI wr w.heap.size vp (zs ps)
  own2 : OwnG encP TP wr w.heap.size vt qs
  apart : ∀ g, vp.ownBlock = some g → vt.ownBlock ≠ some g
  far1 : vp.ownBlock ≠ some p
  far2 : vt.ownBlock ≠ some p
  trees : TreesR wr (fun b => w.heap.size ≤ b ∧ b ≠ p ∧ vp.ownBlock ≠ some b ∧ vt.ownBlock ≠ some b) ts rs
theorem ga_left {α : Type} [Inhabited α] {xs ys : List α} {j : Nat} (h : j < xs.length) : ga (xs ++ ys) j = ga xs j := by
  unfold ga; rw [List.getD_eq_getElem?_getD, List.getD_eq_getElem?_getD, List.getElem?_append_left h]
theorem ga_right {α : Type} [Inhabited α] {xs : List α} {y : α} : ga (xs ++ [y]) xs.length = y := by simp [ga]
section
variable {TR TN TP : TypeId} {w wr w' : World} {gr p : Nat} {rd : Array Value} {d i dp : Int} {vp0 vt0 vp vt : Value} {ps qs rs : List Nat} {ts : List VT}
theorem NodeSt.below (h : NodeSt TR TN TP w gr p rd d i dp vp0 vt0 vp vt ps qs rs ts wr) (hb : Below wr.heap.size wr w') : NodeSt TR TN TP w gr p rd d i dp vp0 vt0 vp vt ps qs rs ts w' := by
  have h2 := h.trees
  exact ⟨h.rdr.below hb, h.grl, ⟨hb.os.trans h.grw.os, hb.tape.trans h.grw.tape, hb.output.trans h.grw.output, Nat.le_trans h.grw.size hb.size, fun k hk hne => (hb.block k (Nat.lt_of_lt_of_le hk h.grw.size)).trans (h.grw.block k hk hne)⟩,
    h.node.below hb, h.hp, h.own1.below hb, h.own2.below hb, h.apart, h.far1, h.far2, h2.below hb⟩
theorem NodeSt.app1 (h : NodeSt TR TN TP w gr p rd d i dp vp0 vt0 vp vt ps qs rs ts wr) {vp' : Value} {j : Nat} (ho : OwnI w' w.heap.size vp' (zs ps ++ [(j : Int)])) (hg : wr.grownBy w' vp.ownBlock) (hl : Lies wr vp vp') :
    NodeSt TR TN TP w gr p rd d i dp vp0 vt0 vp' vt (ps ++ [j]) qs rs ts w' := by
  have h2 := h.trees
  have hlt := h.own1.blk
  have hsz : w.heap.size ≤ wr.heap.size := h.grw.size
  have hpl : p < wr.heap.size := h.node.lt
  have ne : ∀ k, k < w.heap.size → some k ≠ vp.ownBlock := fun k hk e => by have := (hlt k e.symm).1; omega
  have far1' : vp'.ownBlock ≠ some p := fun e => by
    rcases hl p e with h3 | h3
    · exact h.far1 h3
    · omega
  refine ⟨(hg.block gr (by have := h.grl; omega) (ne gr h.grl)).trans h.rdr, h.grl, ?_, (hg.block p hpl (fun e => h.far1 e.symm)).trans h.node, h.hp, by rw [zs_snoc]; exact ho, ?_, ?_, far1', h.far2, ?_⟩
  · exact ⟨hg.os.trans h.grw.os, hg.tape.trans h.grw.tape, hg.output.trans h.grw.output, Nat.le_trans hsz hg.size, fun k hk hne => (hg.block k (by omega) (ne k hk)).trans (h.grw.block k hk hne)⟩
  · exact h.own2.keepB fun b hb => hg.block b (h.own2.lt b hb).2 fun e => h.apart b e.symm hb
  · intro g h3 h4
    rcases hl g h3 with h5 | h5
    · exact h.apart g h5 h4
    · have := (h.own2.lt g h4).2; omega
  · refine TreesR.keep (fun b hb hbl => ⟨hb.1, hb.2.1, fun e => ?_, hb.2.2.2⟩) hg.size (fun b hb hbl => hg.block b hbl (fun e => hb.2.2.1 e.symm)) ts rs h2
    rcases hl b e with h5 | h5
    · exact hb.2.2.1 h5
    · omega
theorem NodeSt.app2 (h : NodeSt TR TN TP w gr p rd d i dp vp0 vt0 vp vt ps qs rs ts wr) {vt' : Value} {q : Nat} (ho : OwnG encP TP w' w.heap.size vt' (qs ++ [q])) (hg : wr.grownBy w' vt.ownBlock) (hl : Lies wr vt vt') :
    NodeSt TR TN TP w gr p rd d i dp vp0 vt0 vp vt' ps (qs ++ [q]) rs ts w' := by
  have h2 := h.trees
  have hlt := h.own2.lt
  have hsz : w.heap.size ≤ wr.heap.size := h.grw.size
  have hpl : p < wr.heap.size := h.node.lt
  have ne : ∀ k, k < w.heap.size → some k ≠ vt.ownBlock := fun k hk e => by have := (hlt k e.symm).1; omega
  have far2' : vt'.ownBlock ≠ some p := fun e => by
    rcases hl p e with h3 | h3
    · exact h.far2 h3
    · omega
  refine ⟨(hg.block gr (by have := h.grl; omega) (ne gr h.grl)).trans h.rdr, h.grl, ?_, (hg.block p hpl (fun e => h.far2 e.symm)).trans h.node, h.hp, ?_, ho, ?_, h.far1, far2', ?_⟩
  · exact ⟨hg.os.trans h.grw.os, hg.tape.trans h.grw.tape, hg.output.trans h.grw.output, Nat.le_trans hsz hg.size, fun k hk hne => (hg.block k (by omega) (ne k hk)).trans (h.grw.block k hk hne)⟩
  · exact h.own1.keepO fun b hb => hg.block b (h.own1.blk b hb).2 fun e => h.apart b hb e.symm
  · intro g h3 h4
    rcases hl g h4 with h5 | h5
    · exact h.apart g h3 h5
    · have := (h.own1.blk g h3).2; omega
  · refine TreesR.keep (fun b hb hbl => ⟨hb.1, hb.2.1, hb.2.2.1, fun e => ?_⟩) hg.size (fun b hb hbl => hg.block b hbl (fun e => hb.2.2.2 e.symm)) ts rs h2
    rcases hl b e with h5 | h5
    · exact hb.2.2.2 h5
    · omega
/-- writes to the reader's block alone, and new blocks -/
theorem NodeSt.moved (h : NodeSt TR TN TP w gr p rd d i dp vp0 vt0 vp vt ps qs rs ts wr) {rd' : Array Value} (hr : Blk w' gr TR rd') (hg : wr.grownBy w' (some gr)) : NodeSt TR TN TP w gr p rd' d i dp vp0 vt0 vp vt ps qs rs ts w' := by
  have h2 := h.trees
  have hsz : w.heap.size ≤ wr.heap.size := h.grw.size
  have hgl := h.grl
  have ne : ∀ k, w.heap.size ≤ k → some k ≠ some gr := fun k hk e => by cases e; omega
  refine ⟨hr, h.grl, h.grw.trans hg, (hg.block p h.node.lt (ne p h.hp)).trans h.node, h.hp, h.own1.keepO fun b hb => hg.block b (h.own1.blk b hb).2 (ne b (h.own1.blk b hb).1), h.own2.keepB fun b hb => hg.block b (h.own2.lt b hb).2 (ne b (h.own2.lt b hb).1), h.apart, h.far1, h.far2, ?_⟩
  exact TreesR.keep (fun b hb _ => hb) hg.size (fun b hb hbl => hg.block b hbl (ne b hb.1)) ts rs h2
/-- stores into the node alone -/
theorem NodeSt.store (h : NodeSt TR TN TP w gr p rd d i dp vp0 vt0 vp vt ps qs rs ts wr) {d' i' dp' : Int} {x y : Value} (hn : Blk w' p TN #[.int .i64 d', .int .i64 i', x, y, .int .i64 dp']) (hg : wr.grownBy w' (some p)) : NodeSt TR TN TP w gr p rd d' i' dp' x y vp vt ps qs rs ts w' := by
  have h2 := h.trees
  have hsz : w.heap.size ≤ wr.heap.size := h.grw.size
  have hgl := h.grl
  have hpl := h.hp
  refine ⟨(hg.block gr (by omega) (fun e => by cases e; omega)).trans h.rdr, h.grl, ⟨hg.os.trans h.grw.os, hg.tape.trans h.grw.tape, hg.output.trans h.grw.output, Nat.le_trans hsz hg.size, fun k hk hne => (hg.block k (by omega) (fun e => by cases e; omega)).trans (h.grw.block k hk hne)⟩, hn, h.hp,
    h.own1.keepO fun b hb => hg.block b (h.own1.blk b hb).2 (fun e => h.far1 (e ▸ hb)), h.own2.keepB fun b hb => hg.block b (h.own2.lt b hb).2 (fun e => h.far2 (e ▸ hb)), h.apart, h.far1, h.far2, ?_⟩
  exact TreesR.keep (fun b hb _ => hb) hg.size (fun b hb hbl => hg.block b hbl (fun e => hb.2.1 (by cases e; rfl))) ts rs h2
theorem grown_set1 (w : World) (p o : Nat) (u : Value) : w.grownBy (w.setCell ⟨p, o, none⟩ u) (some p) := ⟨rfl, rfl, rfl, by simp, fun k _ hk => Below.heap_setCell w _ _ k (fun e => hk (by rw [e]))⟩
theorem NodeSt.put1 (h : NodeSt TR TN TP w gr p rd d i dp vp0 vt0 vp vt ps qs rs ts wr) (x : Int) : NodeSt TR TN TP w gr p rd d x dp vp0 vt0 vp vt ps qs rs ts (wr.setCell ⟨p, 1, none⟩ (.int .i64 x)) := h.store (h.node.put 1 (.int .i64 x)) (grown_set1 _ _ _ _)
theorem NodeSt.put4 (h : NodeSt TR TN TP w gr p rd d i dp vp0 vt0 vp vt ps qs rs ts wr) (x : Int) : NodeSt TR TN TP w gr p rd d i x vp0 vt0 vp vt ps qs rs ts (wr.setCell ⟨p, 4, none⟩ (.int .i64 x)) := h.store (h.node.put 4 (.int .i64 x)) (grown_set1 _ _ _ _)
theorem NodeSt.put23 (h : NodeSt TR TN TP w gr p rd d i dp vp0 vt0 vp vt ps qs rs ts wr) : NodeSt TR TN TP w gr p rd d i dp vp vt vp vt ps qs rs ts ((wr.setCell ⟨p, 2, none⟩ vp).setCell ⟨p, 3, none⟩ vt) :=
  (h.store (h.node.put 2 vp) (grown_set1 _ _ _ _)).store ((h.node.put 2 vp).put 3 vt) (grown_set1 _ _ _ _)
/-- one part more, read behind the node -/
theorem NodeSt.part (h : NodeSt TR TN TP w gr p rd d i dp vp0 vt0 vp vt ps qs rs ts wr) {rd' : Array Value} (hr : Blk w' gr TR rd') (hg : wr.grownBy w' (some gr)) {t : VT} {q : Nat} (ht : TreeR w' (fun b => wr.heap.size ≤ b) t q) :
    NodeSt TR TN TP w gr p rd' d i dp vp0 vt0 vp vt ps qs (rs ++ [q]) (ts ++ [t]) w' := by
  have h' := h.moved hr hg
  have hsz : w.heap.size ≤ wr.heap.size := h.grw.size
  have hpl := h.node.lt
  refine { h' with trees := h'.trees.snoc (ht.weak fun b hb => ⟨by omega, by omega, fun e => ?_, fun e => ?_⟩) }
  · have := (h.own1.blk b e).2; omega
  · have := (h.own2.lt b e).2; omega
/-- the node as a tree -/
theorem NodeSt.tree {d i : Nat} (h : NodeSt TR TN TP w gr p rd d i (deps ts : Nat) vp vt vp vt ps qs qs ts wr) : TreeR wr (fun b => w.heap.size ≤ b) (.mk d i ps ts) p := by
  have hc := h.node.cell
  simp only [TreeR]
  exact ⟨h.hp, h.node.lt, vp, vt, qs, by rw [hc]; rfl, by rw [hc]; rfl, by rw [hc]; rfl, by rw [hc]; rfl, by rw [hc]; rfl, h.own1.ints, h.own2.slrB, TreesR.keep (fun b hb _ => hb.1) (Nat.le_refl _) (fun _ _ _ => rfl) ts qs h.trees⟩
theorem NodeSt.alloc_ (h : NodeSt TR TN TP w gr p rd d i dp vp0 vt0 vp vt ps qs rs ts wr) {o : Obj} : NodeSt TR TN TP w gr p rd d i dp vp0 vt0 vp vt ps qs rs ts (wr.alloc o) := h.below ((Below.refl _ _).alloc (Nat.le_refl _) _)
theorem NodeSt.drew_ (h : NodeSt TR TN TP w gr p rd d i dp vp0 vt0 vp vt ps qs rs ts wr) : NodeSt TR TN TP w gr p rd d i dp vp0 vt0 vp vt ps qs rs ts wr.drew := h.below (Below.refl _ _).drew
/-- the new node -/
theorem NodeSt.new {w1 : World} {rd : Array Value} (hr : Blk w1 gr TR rd) (hl : gr < w.heap.size) (hg : w.grownBy w1 (some gr)) (d : Int) :
    NodeSt TR TN TP w gr w1.heap.size rd d 0 0 (.slice none 0 0) (.slice none 0 0) (.slice none 0 0) (.slice none 0 0) [] [] [] [] (w1.alloc (.cells #[.int .i64 d, .int .i64 0, .slice none 0 0, .slice none 0 0, .int .i64 0] TN)) := by
  refine ⟨hr.alloc _, hl, ⟨hg.os, hg.tape, hg.output, Nat.le_trans hg.size (by simp), fun k hk hne => (Below.heap_alloc w1 _ k (Nat.lt_of_lt_of_le hk hg.size)).trans (hg.block k hk hne)⟩, Blk.new _ _ _, hg.size, ?_, OwnG.nil, (fun g h => by cases h), (by simp [Value.ownBlock]), (by simp [Value.ownBlock]), rfl⟩
  exact World.ownsRow_nil _ _ _ _
end
end Go.Proofs.YtljjbhihllnnaaaGreat

namespace Go.Proofs.YtljjbhihllnnaaaGreat
open Go.RowKit

theorem bytesLess_lt : ∀ (x y : List UInt8), Op.bytesLess x y = decide (x < y)
  | [], [] => by simp [Op.bytesLess]
  | _ :: _, [] => by simp [Op.bytesLess]
  | [], _ :: _ => by simp [Op.bytesLess]
  | a :: x, b :: y => by
    rw [Op.bytesLess, bytesLess_lt x y]
    simp only [List.cons_lt_cons_iff]
    by_cases h1 : a < b <;> by_cases h2 : a = b <;> by_cases h3 : x < y <;> simp [h1, h2, h3]
/-- Go's '<' on strings -/
def lessB (a b : ByteArray) : Bool := Op.bytesLess a.toList b.toList
theorem lessB_eq (a b : ByteArray) : lessB a b = decide (a.data.toList < b.data.toList) := by
  unfold lessB; rw [bytesLess_lt, ByteArray.toList_eq, ByteArray.toList_eq]
theorem bytes_ext {a b : ByteArray} (h : a.data.toList = b.data.toList) : a = b := by
  cases a; cases b; simp at h; rw [h]
theorem lessB_irrefl (a : ByteArray) : lessB a a = false := by rw [lessB_eq]; simp [List.lt_irrefl]
theorem lessB_trans {a b c : ByteArray} (h1 : lessB a b = true) (h2 : lessB b c = true) : lessB a c = true := by
  rw [lessB_eq, decide_eq_true_eq] at *
  exact List.lt_trans h1 h2
theorem lessB_total {a b : ByteArray} (h1 : lessB a b = false) (h2 : lessB b a = false) : a = b := by
  rw [lessB_eq, decide_eq_false_iff_not] at *
  exact bytes_ext (List.le_antisymm (List.not_lt.1 h2) (List.not_lt.1 h1))
theorem lessB_asymm {a b : ByteArray} (h1 : lessB a b = true) : lessB b a = false := by
  cases h : lessB b a
  · rfl
  · have := lessB_trans h1 h; rw [lessB_irrefl] at this; cases this
theorem lessB_ne {a b : ByteArray} (h1 : lessB a b = true) : a ≠ b := fun e => by rw [e, lessB_irrefl] at h1; cases h1

abbrev RowT := ByteArray × Int
/-- strictly ascending views -/
def Asc (l : List RowT) : Prop := l.Pairwise fun a b => lessB a.1 b.1 = true
theorem asc_iff {l : List RowT} : Asc l ↔ ∀ i, i + 1 < l.length → lessB (ga l i).1 (ga l (i + 1)).1 = true := by
  induction l with
  | nil => simp [Asc]
  | cons x l ih =>
    unfold Asc at ih ⊢
    rw [List.pairwise_cons, ih]
    constructor
    · rintro ⟨h1, h2⟩ i hi
      cases i with
      | zero => have := h1 (ga l 0) (ga_mem (by simpa using hi)); simpa [ga] using this
      | succ i => have := h2 i (by simpa using hi); simpa [ga] using this
    · intro h
      have h2 : ∀ i, i + 1 < l.length → lessB (ga l i).1 (ga l (i + 1)).1 = true := fun i hi => by have := h (i + 1) (by simpa using hi); simpa [ga] using this
      refine ⟨fun y hy => ?_, h2⟩
      obtain ⟨j, hj, rfl⟩ := List.getElem_of_mem hy
      have key : ∀ j, j < l.length → lessB x.1 (ga l j).1 = true := by
        intro j
        induction j with
        | zero => intro hj; have := h 0 (by simpa using hj); simpa [ga] using this
        | succ j ihj => intro hj; exact lessB_trans (ihj (by omega)) (h2 j hj)
      have := key j hj
      rwa [ga_lt hj] at this
/-- two ascending lists of the same rows are one -/
theorem asc_unique {l m : List RowT} (hl : Asc l) (hm : Asc m) (h : ∀ x, x ∈ l ↔ x ∈ m) : l = m := by
  have nl : ∀ {l : List RowT}, Asc l → l.Pairwise (fun a b => a ≠ b) := fun hl => List.Pairwise.imp (fun {a b} h (e : a = b) => lessB_ne h (congrArg Prod.fst e)) hl
  have hp : l.Perm m := (List.perm_ext_iff_of_nodup (nl hl) (nl hm)).2 h
  refine List.Perm.eq_of_pairwise (le := fun (a b : RowT) => lessB a.1 b.1 = true) (fun a b _ _ h1 h2 => ?_) hl hm hp
  have := lessB_asymm h1
  rw [h2] at this; cases this

/-- a row put where it belongs, if no other output stands there -/
def putR (r : RowT) : List RowT → Option (List RowT)
  | [] => some [r]
  | x :: xs => if lessB x.1 r.1 = true then (putR r xs).map (x :: ·) else if x.1 = r.1 then (if x.2 = r.2 then some (x :: xs) else none) else some (r :: x :: xs)
def putAll : List RowT → List RowT → Option (List RowT)
  | acc, [] => some acc
  | acc, r :: rs => match putR r acc with | none => none | some acc' => putAll acc' rs
theorem putAll_snoc (acc rs : List RowT) (r : RowT) : putAll acc (rs ++ [r]) = (putAll acc rs).bind (putR r) := by
  induction rs generalizing acc with
  | nil => simp [putAll]; cases putR r acc <;> rfl
  | cons x rs ih =>
    simp only [List.cons_append, putAll]
    cases putR x acc with
    | none => rfl
    | some a => exact ih a
theorem putR_mem {r : RowT} {l m : List RowT} (h : putR r l = some m) : ∀ x, x ∈ m ↔ x = r ∨ x ∈ l := by
  induction l generalizing m with
  | nil => simp [putR] at h; subst h; simp
  | cons y l ih =>
    simp only [putR] at h
    split at h
    · cases hp : putR r l with
      | none => simp [hp] at h
      | some m' =>
        simp [hp] at h; subst h
        intro x
        rw [List.mem_cons, ih hp x, List.mem_cons]
        constructor <;> (intro h; rcases h with h | h | h <;> simp [h])
    · split at h
      · split at h
        · simp at h; subst h
          intro x
          rw [List.mem_cons]
          constructor
          · intro h; exact .inr h
          · rintro (h | h)
            · exact .inl (h.trans (Prod.ext (by simp [*]) (by simp [*])))
            · exact h
        · cases h
      · simp at h; subst h; intro x; simp
theorem putR_asc {r : RowT} {l m : List RowT} (hl : Asc l) (h : putR r l = some m) : Asc m := by
  induction l generalizing m with
  | nil => simp [putR] at h; subst h; simp [Asc]
  | cons y l ih =>
    have hy := List.pairwise_cons.1 hl
    simp only [putR] at h
    split at h
    · cases hp : putR r l with
      | none => simp [hp] at h
      | some m' =>
        simp [hp] at h; subst h
        refine List.pairwise_cons.2 ⟨fun x hx => ?_, ih hy.2 hp⟩
        rcases (putR_mem hp x).1 hx with rfl | hx
        · assumption
        · exact hy.1 x hx
    · split at h
      · split at h
        · simp at h; subst h; exact hl
        · cases h
      · simp at h; subst h
        rename_i h1 h2
        have h3 : lessB r.1 y.1 = true := by
          cases h4 : lessB r.1 y.1
          · exact absurd (lessB_total (by simpa using h1) h4) h2
          · rfl
        refine List.pairwise_cons.2 ⟨fun x hx => ?_, hl⟩
        rcases List.mem_cons.1 hx with rfl | hx
        · exact h3
        · exact lessB_trans h3 (hy.1 x hx)
theorem putR_none {r : RowT} {l : List RowT} (h : putR r l = none) : ∃ x ∈ l, x.1 = r.1 ∧ x.2 ≠ r.2 := by
  induction l with
  | nil => simp [putR] at h
  | cons y l ih =>
    simp only [putR] at h
    split at h
    · cases hp : putR r l with
      | none => obtain ⟨x, hx, e⟩ := ih hp; exact ⟨x, by simp [hx], e⟩
      | some m' => simp [hp] at h
    · split at h
      · split at h
        · cases h
        · exact ⟨y, by simp, by assumption, by assumption⟩
      · cases h
theorem putAll_some {acc rs out : List RowT} (ha : Asc acc) (h : putAll acc rs = some out) : Asc out ∧ ∀ x, x ∈ out ↔ x ∈ acc ∨ x ∈ rs := by
  induction rs generalizing acc with
  | nil => simp [putAll] at h; subst h; exact ⟨ha, by simp⟩
  | cons r rs ih =>
    simp only [putAll] at h
    cases hp : putR r acc with
    | none => simp [hp] at h
    | some a =>
      simp only [hp] at h
      obtain ⟨h1, h2⟩ := ih (putR_asc ha hp) h
      refine ⟨h1, fun x => ?_⟩
      rw [h2 x, putR_mem hp x, List.mem_cons]
      constructor
      · rintro ((h | h) | h)
        · exact .inr (.inl h)
        · exact .inl h
        · exact .inr (.inr h)
      · rintro (h | h | h)
        · exact .inl (.inr h)
        · exact .inl (.inl h)
        · exact .inr h
theorem putAll_none {acc rs : List RowT} (h : putAll acc rs = none) : ∃ x y, (x ∈ acc ∨ x ∈ rs) ∧ (y ∈ acc ∨ y ∈ rs) ∧ x.1 = y.1 ∧ x.2 ≠ y.2 := by
  induction rs generalizing acc with
  | nil => simp [putAll] at h
  | cons r rs ih =>
    simp only [putAll] at h
    cases hp : putR r acc with
    | none =>
      obtain ⟨x, hx, e⟩ := putR_none hp
      exact ⟨x, r, .inl hx, .inr (by simp), e⟩
    | some a =>
      simp only [hp] at h
      obtain ⟨x, y, hx, hy, e⟩ := ih h
      have key : ∀ z, (z ∈ a ∨ z ∈ rs) → (z ∈ acc ∨ z ∈ r :: rs) := by
        intro z hz
        rcases hz with hz | hz
        · rcases (putR_mem hp z).1 hz with rfl | hz
          · exact .inr (by simp)
          · exact .inl hz
        · exact .inr (by simp [hz])
      exact ⟨x, y, key x hx, key y hy, e⟩

/-- the rows sorted by views and outputs, each once -/
def ltR (a b : RowT) : Bool := lessB a.1 b.1 || (decide (a.1 = b.1) && decide (a.2 < b.2))
def Made (rs m : List RowT) : Prop := m.Pairwise (fun a b => ltR a b = true) ∧ ∀ x, x ∈ m ↔ x ∈ rs
theorem made_put {rs m : List RowT} (h : Made rs m) : (∀ out, putAll [] rs = some out → out = m ∧ Asc m) ∧ (putAll [] rs = none → ¬ Asc m) := by
  obtain ⟨h1, h2⟩ := h
  constructor
  · intro out ho
    obtain ⟨a1, a2⟩ := putAll_some (by simp [Asc]) ho
    have hm : Asc m := by
      refine List.Pairwise.imp_of_mem (fun {a b} ha hb hab => ?_) h1
      cases hl : lessB a.1 b.1
      · exfalso
        simp only [ltR, hl, Bool.false_or, Bool.and_eq_true, decide_eq_true_eq] at hab
        have ma : a ∈ out := (a2 a).2 (.inr ((h2 a).1 ha))
        have mb : b ∈ out := (a2 b).2 (.inr ((h2 b).1 hb))
        have key : ∀ {l : List RowT}, Asc l → ∀ x ∈ l, ∀ y ∈ l, x.1 = y.1 → x = y := by
          intro l hl
          induction l with
          | nil => intro x hx; cases hx
          | cons z l ih =>
            have hz := List.pairwise_cons.1 hl
            intro x hx y hy e
            rcases List.mem_cons.1 hx with rfl | hx2 <;> rcases List.mem_cons.1 hy with rfl | hy2
            · rfl
            · exact absurd e (lessB_ne (hz.1 y hy2))
            · exact absurd e.symm (lessB_ne (hz.1 x hx2))
            · exact ih hz.2 x hx2 y hy2 e
        have := key a1 a ma b mb hab.1
        rw [this] at hab
        omega
      · rfl
    exact ⟨asc_unique a1 hm fun x => by rw [a2 x, h2 x]; simp, hm⟩
  · intro hn ha
    obtain ⟨x, y, hx, hy, e1, e2⟩ := putAll_none hn
    have mx : x ∈ m := (h2 x).2 (by simpa using hx)
    have my : y ∈ m := (h2 y).2 (by simpa using hy)
    have key : ∀ {l : List RowT}, Asc l → ∀ x ∈ l, ∀ y ∈ l, x.1 = y.1 → x = y := by
      intro l hl
      induction l with
      | nil => intro x hx; cases hx
      | cons z l ih =>
        have hz := List.pairwise_cons.1 hl
        intro x hx y hy e
        rcases List.mem_cons.1 hx with rfl | hx2 <;> rcases List.mem_cons.1 hy with rfl | hy2
        · rfl
        · exact absurd e (lessB_ne (hz.1 y hy2))
        · exact absurd e.symm (lessB_ne (hz.1 x hx2))
        · exact ih hz.2 x hx2 y hy2 e
    exact e2 (by rw [key ha x mx y my e1])

/-- the tree of a view text, if it is one -/
def viewOf (s : ByteArray) : Option VT := if s.size ≤ 4000 then (match pg (s.size + 1) (from_ s 0) with | some (t, []) => some t | _ => none) else none
/-- a row of a table of depth D -/
def rowB (D : Int) (r : RowT) : Bool := match viewOf r.1 with | some t => (decide ((t.dep : Int) = D) || t.deg == 0) && inB r.2 0 99 | none => false
/-- a table -/
def tabB (D : Int) (rs : List RowT) : Bool := inB D 0 4 && decide (rs.length ≤ 60) && decide (∀ i, i < rs.length → rowB D (ga rs i) = true ∧ (0 < i → lessB (ga rs (i - 1)).1 (ga rs i).1 = true))
theorem tabB_iff {D : Int} {rs : List RowT} : tabB D rs = true ↔ inB D 0 4 = true ∧ rs.length ≤ 60 ∧ (∀ i, i < rs.length → rowB D (ga rs i) = true) ∧ Asc rs := by
  simp only [tabB, Bool.and_eq_true, decide_eq_true_eq, asc_iff, and_assoc]
  refine and_congr_right fun _ => and_congr_right fun _ => ⟨fun h => ⟨fun i hi => (h i hi).1, fun i hi => ?_⟩, fun h i hi => ⟨h.1 i hi, fun h0 => ?_⟩⟩
  · have := (h (i + 1) hi).2 (by omega)
    simpa using this
  · have := h.2 (i - 1) (by omega)
    rwa [show i - 1 + 1 = i by omega] at this
end Go.Proofs.YtljjbhihllnnaaaGreat

namespace Go.Proofs.YtljjbhihllnnaaaGreat

theorem txt_mk (k d i : Nat) (ps : List Nat) (ts : List VT) : (VT.mk d i ps ts).txt k = dch d :: 46 :: dch i :: (if k = 0 ∨ ts.isEmpty = true then [] else txts (k - 1) 40 ps ts ++ [41]) := by simp [VT.txt]
theorem txts_len {p : List UInt8 → Option (VT × List UInt8)} {q : Nat} (hp : ∀ l t r, p l = some (t, r) → (t.txt q).length + r.length ≤ l.length) {n : Nat} {s s' : UInt8} {l r : List UInt8} {ps : List Nat} {ts : List VT} (h : pks p n s l = some (ps, ts, r)) :
    (txts q s' ps ts).length + r.length ≤ l.length := by
  induction n generalizing s s' l r ps ts with
  | zero => simp [pks] at h; obtain ⟨rfl, rfl, rfl⟩ := h; simp [txts]
  | succ n ih =>
    unfold pks at h
    split at h; · cases h
    rename_i l1 h1
    split at h; · cases h
    rename_i j l2 h2
    split at h; · cases h
    rename_i l3 h3
    split at h; · cases h
    rename_i t l4 h4
    split at h
    · split at h; · cases h
      rename_i ps' ts' l5 h5
      simp at h
      obtain ⟨rfl, rfl, rfl⟩ := h
      have i1 := ih (s' := 44) h5
      have := sgn_len h1
      have := dgt_len h2
      have := sgn_len h3
      have := hp _ _ _ h4
      simp only [txts, List.length_cons, List.length_append]; omega
    · cases h
theorem txt_len {f : Nat} {l r : List UInt8} {t : VT} (h : pv f l = some (t, r)) : ∀ k, (t.txt k).length + r.length ≤ l.length := by
  induction f generalizing l r t with
  | zero => cases h
  | succ f ih =>
    intro k
    unfold pv at h
    split at h; · cases h
    rename_i d l1 h1
    split at h; · cases h
    rename_i l2 h2
    split at h; · cases h
    rename_i i l3 h3
    have := dgt_len h1
    have := sgn_len h2
    have := dgt_len h3
    split at h
    · simp at h; obtain ⟨rfl, rfl⟩ := h
      simp [txt_mk]; omega
    · split at h; · cases h
      rename_i ps ts l4 h4
      split at h; · cases h
      rename_i l5 h5
      simp at h; obtain ⟨rfl, rfl⟩ := h
      have := sgn_len h5
      have i1 := txts_len (q := k - 1) (fun l t r h => ih h (k - 1)) (s' := 40) h4
      rw [txt_mk]
      split
      · simp; omega
      · simp only [List.length_cons, List.length_append, List.length_nil]; omega
/-- bytes as a string -/
def strB (l : List UInt8) : ByteArray := ⟨l.toArray⟩
theorem strB_size (l : List UInt8) : (strB l).size = l.length := by simp [strB, ByteArray.size]
theorem strB_from (l : List UInt8) : from_ (strB l) 0 = l := by simp [from_, strB]
theorem strB_app (l m : List UInt8) : strB l ++ strB m = strB (l ++ m) := by
  apply bytes_ext
  simp [strB]
theorem viewOf_inv {s : ByteArray} {t : VT} (h : viewOf s = some t) : s.size ≤ 4000 ∧ pv (s.size + 1) (from_ s 0) = some (t, []) ∧ t.wf = true ∧ t.good = true := by
  unfold viewOf at h
  split at h
  · rename_i hs
    split at h
    · rename_i u hu
      cases h
      obtain ⟨h1, h2⟩ := pg_inv hu
      exact ⟨hs, h1, pv_wf h1, h2⟩
    · cases h
  · cases h
theorem viewOf_txt {s : ByteArray} {t : VT} (h : viewOf s = some t) (k : Nat) : (t.txt k).length ≤ 4000 ∧ viewOf (strB (t.txt k)) = some (t.cut k) := by
  obtain ⟨h1, h2, h3, h4⟩ := viewOf_inv h
  have h5 := txt_len h2 k
  rw [from_len] at h5
  simp at h5
  have h6 : (t.txt k).length ≤ 4000 := by omega
  refine ⟨h6, ?_⟩
  unfold viewOf
  rw [if_pos (by rw [strB_size]; exact h6), strB_from, pg_txt h3 h4 (by rw [strB_size]; omega)]
end Go.Proofs.YtljjbhihllnnaaaGreat

namespace Go.Proofs.YtljjbhihllnnaaaGreat

/-- a node's degree and input, as a text -/
def hdT (N : Net) (v : Nat) : List UInt8 := [dch (gl N.ends v).length, 46, dch (gi N.inputs v).toNat]
/-- what stands for the ends of a node -/
def etx (f : Nat → List UInt8) : UInt8 → List (Int × Int) → List UInt8
  | _, [] => []
  | s, e :: es => s :: dch e.2.toNat :: 58 :: (f e.1.toNat ++ etx f 44 es)
/-- the text of the view of depth t -/
def ntx (N : Net) : Nat → Nat → List UInt8
  | 0, v => hdT N v
  | t + 1, v => hdT N v ++ (if gl N.ends v = [] then [] else etx (ntx N t) 40 (gl N.ends v) ++ [41])
theorem ntx_zero (N : Net) (v : Nat) : ntx N 0 v = hdT N v := rfl
theorem ntx_succ (N : Net) (t v : Nat) : ntx N (t + 1) v = hdT N v ++ (if gl N.ends v = [] then [] else etx (ntx N t) 40 (gl N.ends v) ++ [41]) := rfl
theorem hdT_len (N : Net) (v : Nat) : (hdT N v).length = 3 := rfl
theorem etx_snoc (f : Nat → List UInt8) : ∀ {es : List (Int × Int)} {s : UInt8} {j : Nat}, j < es.length →
    etx f s (es.take (j + 1)) = etx f s (es.take j) ++ (if j = 0 then s else 44) :: dch (gp es j).2.toNat :: 58 :: f (gp es j).1.toNat
  | [], _, _, h => by simp at h
  | e :: es, s, 0, _ => by simp [etx, gp]
  | e :: es, s, j + 1, h => by
    have ih := etx_snoc f (es := es) (s := 44) (j := j) (by simpa using h)
    have e1 : gp (e :: es) (j + 1) = gp es j := by simp [gp]
    simp only [List.take_succ_cons, etx, ih, e1]
    simp
/-- the sum of a function over the nodes that the ends lead to -/
def sumE (g : Nat → Nat) (es : List (Int × Int)) : Nat := (es.map fun e => g e.1.toNat).sum
theorem sumE_snoc (g : Nat → Nat) {es : List (Int × Int)} {j : Nat} (h : j < es.length) : sumE g (es.take (j + 1)) = sumE g (es.take j) + g (gp es j).1.toNat := by
  unfold sumE
  rw [List.take_succ_eq_append_getElem h, List.map_append, List.sum_append, gp_lt h]
  simp
theorem etx_len (f : Nat → List UInt8) (s : UInt8) (es : List (Int × Int)) : (etx f s es).length = 3 * es.length + sumE (fun v => (f v).length) es := by
  induction es generalizing s with
  | nil => simp [etx, sumE]
  | cons e es ih =>
    simp only [etx, List.length_cons, List.length_append, ih, sumE, List.map_cons, List.sum_cons]
    omega
theorem ntx_len (N : Net) (t v : Nat) : (ntx N (t + 1) v).length = 3 + (if gl N.ends v = [] then 0 else 3 * (gl N.ends v).length + sumE (fun u => (ntx N t u).length) (gl N.ends v) + 1) := by
  rw [ntx_succ, List.length_append, hdT_len]
  split
  · rfl
  · rw [List.length_append, etx_len]; rfl
theorem sumE_ge (g : Nat → Nat) {es : List (Int × Int)} {j : Nat} (h : j < es.length) : g (gp es j).1.toNat ≤ sumE g es := by
  induction es generalizing j with
  | nil => simp at h
  | cons e es ih =>
    simp only [sumE, List.map_cons, List.sum_cons] at ih ⊢
    cases j with
    | zero => simp [gp]
    | succ j =>
      have := ih (j := j) (by simpa using h)
      have e1 : gp (e :: es) (j + 1) = gp es j := by simp [gp]
      rw [e1]; omega
theorem sumE_take (g : Nat → Nat) {es : List (Int × Int)} {j : Nat} : sumE g (es.take j) ≤ sumE g es := by
  induction es generalizing j with
  | nil => simp [sumE]
  | cons e es ih =>
    cases j with
    | zero => simp [sumE]
    | succ j =>
      have := ih (j := j)
      simp only [sumE, List.take_succ_cons, List.map_cons, List.sum_cons] at this ⊢
      omega
/-- sums of capped numbers, capped again -/
theorem sumE_min (g : Nat → Nat) (c : Nat) (es : List (Int × Int)) : min (sumE (fun v => min (g v) c) es) c = min (sumE g es) c := by
  induction es with
  | nil => simp [sumE]
  | cons e es ih =>
    simp only [sumE, List.map_cons, List.sum_cons] at ih ⊢
    omega
theorem ntx_child {N : Net} {t v j : Nat} (hj : j < (gl N.ends v).length) : (ntx N t (gp (gl N.ends v) j).1.toNat).length < (ntx N (t + 1) v).length := by
  rw [ntx_len, if_neg (by intro e; rw [e] at hj; simp at hj)]
  have := sumE_ge (fun u => (ntx N t u).length) hj
  omega
/-- the text of a view, empty if it is too long -/
def vtx (N : Net) (t v : Nat) : ByteArray := if (ntx N t v).length ≤ 4000 then strB (ntx N t v) else strB []
theorem ntx_pos (N : Net) (t v : Nat) : 3 ≤ (ntx N t v).length := by
  cases t with
  | zero => exact Nat.le_refl _
  | succ t => rw [ntx_succ, List.length_append, hdT_len]; omega
theorem vtx_empty {N : Net} {t v : Nat} : (vtx N t v).size = 0 ↔ 4000 < (ntx N t v).length := by
  unfold vtx
  have := ntx_pos N t v
  split
  · rw [strB_size]; omega
  · rw [strB_size]; simp; omega
/-- what a table gives to a node -/
def giveT (rows : List RowT) (s : ByteArray) : Option Int := match rows with
  | [] => none
  | r :: rs => if r.1 = s then some r.2 else giveT rs s
theorem giveT_find : ∀ {rows : List RowT} {s : ByteArray} {k : Nat}, Asc rows → k ≤ rows.length → (∀ j, j < k → lessB (ga rows j).1 s = true) → (k < rows.length → lessB (ga rows k).1 s = false) →
    giveT rows s = if k < rows.length ∧ (ga rows k).1 = s then some (ga rows k).2 else none
  | [], s, k, _, hk, _, _ => by simp [giveT]
  | r :: rs, s, 0, ha, _, _, h2 => by
    have h3 := h2 (by simp)
    simp only [ga, List.getD_cons_zero] at h3
    simp only [giveT, ga, List.getD_cons_zero, List.length_cons]
    by_cases he : r.1 = s
    · simp [he]
    · simp only [he, if_false, and_false]
      have hgt : lessB s r.1 = true := by
        cases h4 : lessB s r.1
        · exact absurd (lessB_total h3 h4) he
        · rfl
      have key : ∀ l : List RowT, (∀ x ∈ l, lessB s x.1 = true) → giveT l s = none := by
        intro l
        induction l with
        | nil => intro _; rfl
        | cons x l ih =>
          intro h
          have hx := h x (by simp)
          rw [giveT, if_neg (fun e => by rw [e, lessB_irrefl] at hx; cases hx)]
          exact ih fun y hy => h y (by simp [hy])
      exact key rs fun x hx => lessB_trans hgt ((List.pairwise_cons.1 ha).1 x hx)
  | r :: rs, s, k + 1, ha, hk, h1, h2 => by
    have h0 := h1 0 (by omega)
    simp only [ga, List.getD_cons_zero] at h0
    have e : ∀ j, ga (r :: rs) (j + 1) = ga rs j := fun j => by simp [ga]
    have ih := giveT_find (rows := rs) (s := s) (k := k) (List.pairwise_cons.1 ha).2 (by simpa using hk) (fun j hj => by have := h1 (j + 1) (by omega); rwa [e] at this) (fun h => by have := h2 (by simpa using h); rwa [e] at this)
    rw [giveT, if_neg (fun e2 => by rw [e2, lessB_irrefl] at h0; cases h0), ih, e]
    simp
end Go.Proofs.YtljjbhihllnnaaaGreat

namespace Go.Proofs.YtljjbhihllnnaaaGreat

theorem txts_snoc {k : Nat} : ∀ {ts : List VT} {ps : List Nat} {s : UInt8} {j : Nat}, j < ts.length → ps.length = ts.length →
    txts k s (ps.take (j + 1)) (ts.take (j + 1)) = txts k s (ps.take j) (ts.take j) ++ (if j = 0 then s else 44) :: dch (ga ps j) :: 58 :: (ga ts j).txt k
  | [], _, _, _, h, _ => by simp at h
  | t :: ts, [], _, _, _, h => by simp at h
  | t :: ts, p :: ps, s, 0, _, _ => by simp [txts, ga]
  | t :: ts, p :: ps, s, j + 1, h, hl => by
    have ih := txts_snoc (k := k) (ts := ts) (ps := ps) (s := 44) (j := j) (by simpa using h) (by simpa using hl)
    simp only [List.take_succ_cons, txts, ih]
    have e1 : ga (p :: ps) (j + 1) = ga ps j := by simp [ga]
    have e2 : ga (t :: ts) (j + 1) = ga ts j := by simp [ga]
    rw [e1, e2]
    simp
theorem txts_all {k : Nat} {s : UInt8} {ts : List VT} {ps : List Nat} (hl : ps.length = ts.length) : txts k s (ps.take ts.length) (ts.take ts.length) = txts k s ps ts := by
  rw [List.take_of_length_le (Nat.le_refl _), List.take_of_length_le (by omega)]
theorem txts_part {k : Nat} {s : UInt8} {ts : List VT} {ps : List Nat} {j : Nat} (hj : j < ts.length) (hl : ps.length = ts.length) : (txts k s (ps.take (j + 1)) (ts.take (j + 1))).length ≤ (txts k s ps ts).length := by
  have key : ∀ n, j + 1 + n ≤ ts.length → (txts k s (ps.take (j + 1)) (ts.take (j + 1))).length ≤ (txts k s (ps.take (j + 1 + n)) (ts.take (j + 1 + n))).length := by
    intro n
    induction n with
    | zero => intro _; exact Nat.le_refl _
    | succ n ih =>
      intro h
      have := ih (by omega)
      rw [show j + 1 + (n + 1) = (j + 1 + n) + 1 by omega, txts_snoc (j := j + 1 + n) (by omega) hl, List.length_append]
      exact Nat.le_trans this (Nat.le_add_right _ _)
  have := key (ts.length - (j + 1)) (by omega)
  rwa [show j + 1 + (ts.length - (j + 1)) = ts.length by omega, txts_all hl] at this

theorem wfs_at {ts : List VT} {ps : List Nat} (h : wfs ps ts = true) {j : Nat} (hj : j < ts.length) : ga ps j ≤ 5 ∧ ga ps j < (ga ts j).deg ∧ (ga ts j).wf = true := by
  induction ts generalizing ps j with
  | nil => simp at hj
  | cons t ts ih =>
    cases ps with
    | nil => simp [wfs] at h
    | cons p ps =>
      obtain ⟨h1, h2, h3, h4⟩ := wfs_cons.1 h
      cases j with
      | zero => simpa [ga] using ⟨h1, h2, h3⟩
      | succ j => have := ih h4 (j := j) (by simpa using hj); simpa [ga] using this
end Go.Proofs.YtljjbhihllnnaaaGreat

namespace Go.Proofs.YtljjbhihllnnaaaGreat

/-- edges that answer each other, few ports, small inputs -/
structure Fine (N : Net) : Prop where
  sym : Sym N.ends
  deg : ∀ v, v < N.ends.length → dg N.ends v ≤ 6
  inp : ∀ v, v < N.ends.length → 0 ≤ gi N.inputs v ∧ gi N.inputs v ≤ 9
theorem goodB_fine {N : Net} (h : goodB N = true) : Fine N := by
  obtain ⟨h1, -, h3, h4, h5⟩ := goodB_iff.1 h
  obtain ⟨h6, h7⟩ := endsOk_iff.1 h5
  refine ⟨h7, h6, fun v hv => ?_⟩
  have := inB_iff.1 (allB_iff.1 h4 v (by omega))
  exact this
theorem Fine.union {M N : Net} (hM : Fine M) (hN : Fine N) (h1 : M.inputs.length = M.ends.length) : Fine (unionN M N) := by
  have hl : (unionN M N).ends.length = M.ends.length + N.ends.length := unionE_len _ _
  refine ⟨hM.sym.union hN.sym, fun v hv => ?_, fun v hv => ?_⟩
  · rw [hl] at hv
    show (gl (unionE M.ends N.ends) v).length ≤ 6
    by_cases h : v < M.ends.length
    · rw [unionE_gl1 h]; exact hM.deg v h
    · obtain ⟨u, rfl⟩ : ∃ u, v = M.ends.length + u := ⟨v - M.ends.length, by omega⟩
      rw [unionE_gl2 (by omega)]
      have := hN.deg u (by omega)
      unfold dg at this
      simpa [shiftE] using this
  · rw [hl] at hv
    show 0 ≤ gi (M.inputs ++ N.inputs) v ∧ gi (M.inputs ++ N.inputs) v ≤ 9
    by_cases h : v < M.ends.length
    · have e : gi (M.inputs ++ N.inputs) v = gi M.inputs v := by
        unfold gi
        rw [List.getD_eq_getElem?_getD, List.getD_eq_getElem?_getD, List.getElem?_append_left (by omega)]
      rw [e]; exact hM.inp v h
    · obtain ⟨u, rfl⟩ : ∃ u, v = M.ends.length + u := ⟨v - M.ends.length, by omega⟩
      have e : gi (M.inputs ++ N.inputs) (M.ends.length + u) = gi N.inputs u := by
        unfold gi
        rw [List.getD_eq_getElem?_getD, List.getD_eq_getElem?_getD, List.getElem?_append_right (by omega), h1]
        congr 2; omega
      rw [e]; exact hN.inp u (by omega)

/-- the view of depth t of a node, as a tree -/
def nTr (N : Net) : Nat → Nat → VT
  | 0, v => .mk (gl N.ends v).length (gi N.inputs v).toNat [] []
  | t + 1, v => .mk (gl N.ends v).length (gi N.inputs v).toNat ((gl N.ends v).map fun e => e.2.toNat) ((gl N.ends v).map fun e => nTr N t e.1.toNat)
theorem nTr_deg (N : Net) (t v : Nat) : (nTr N t v).deg = (gl N.ends v).length := by cases t <;> rfl
/-- what an end of a node leads to -/
theorem Fine.at_ {N : Net} (h : Fine N) {v : Nat} (hv : v < N.ends.length) {e : Int × Int} (he : e ∈ gl N.ends v) : ∃ q j : Nat, e = ((q : Int), (j : Int)) ∧ q < N.ends.length ∧ j < (gl N.ends q).length ∧ j ≤ 5 := by
  obtain ⟨i, hi, rfl⟩ := List.getElem_of_mem he
  obtain ⟨q, j, e1, hq, hj, -⟩ := h.sym v i hv hi
  unfold pt at e1
  rw [gp_lt hi] at e1
  have := h.deg q hq
  exact ⟨q, j, e1, hq, hj, by omega⟩
theorem wfs_map {α : Type} {f : α → Nat} {g : α → VT} : ∀ {es : List α}, (∀ e ∈ es, f e ≤ 5 ∧ f e < (g e).deg ∧ (g e).wf = true) → wfs (es.map f) (es.map g) = true
  | [], _ => by simp [wfs]
  | e :: es, h => by
    obtain ⟨h1, h2, h3⟩ := h e (by simp)
    simp only [List.map_cons]
    exact wfs_cons.2 ⟨h1, h2, h3, wfs_map fun x hx => h x (by simp [hx])⟩
section
variable {N : Net}
theorem nTr_wf (h : Fine N) : ∀ (t v : Nat), v < N.ends.length → (nTr N t v).wf = true
  | 0, v, hv => wf_mk.2 ⟨h.deg v hv, by have := h.inp v hv; omega, rfl, .inl rfl, by simp [wfs]⟩
  | t + 1, v, hv => by
    refine wf_mk.2 ⟨h.deg v hv, by have := h.inp v hv; omega, by simp, .inr (by simp), wfs_map fun e he => ?_⟩
    obtain ⟨q, j, rfl, hq, hj, h5⟩ := h.at_ hv he
    simp only [Int.toNat_natCast]
    exact ⟨h5, by rw [nTr_deg]; exact hj, nTr_wf h t q hq⟩
theorem nTr_dep (h : Fine N) : ∀ (t v : Nat), v < N.ends.length → (nTr N t v).dep = if gl N.ends v = [] then 0 else t
  | 0, v, hv => by simp [nTr, VT.dep, deps]
  | t + 1, v, hv => by
    have e : (nTr N (t + 1) v).dep = deps ((gl N.ends v).map fun e => nTr N t e.1.toNat) := dep_mk
    rw [e]
    by_cases h0 : gl N.ends v = []
    · rw [if_pos h0, h0]; simp [deps]
    · rw [if_neg h0]
      refine deps_same (fun x hx => ?_) (by simpa using h0)
      obtain ⟨e, he, rfl⟩ := List.mem_map.1 hx
      obtain ⟨q, j, rfl, hq, hj, -⟩ := h.at_ hv he
      simp only [Int.toNat_natCast]
      rw [nTr_dep h t q hq, if_neg (by intro e; rw [e] at hj; simp at hj)]
theorem nTr_uni (h : Fine N) : ∀ (t v : Nat), v < N.ends.length → (nTr N t v).uni = true
  | 0, v, hv => by simp [nTr, VT.uni, unis]
  | t + 1, v, hv => by
    have e : (nTr N (t + 1) v).uni = unis ((gl N.ends v).map fun e => nTr N t e.1.toNat) := uni_mk
    rw [e]
    refine unis_iff.2 ⟨fun x hx => ?_, fun x hx => ?_⟩
    · obtain ⟨e, he, rfl⟩ := List.mem_map.1 hx
      obtain ⟨q, j, rfl, hq, hj, -⟩ := h.at_ hv he
      simp only [Int.toNat_natCast]
      exact nTr_uni h t q hq
    · have h1 := nTr_dep h (t + 1) v hv
      have e2 : (nTr N (t + 1) v).dep = deps ((gl N.ends v).map fun e => nTr N t e.1.toNat) := dep_mk
      rw [e2] at h1
      obtain ⟨e, he, rfl⟩ := List.mem_map.1 hx
      rw [h1, if_neg (by intro e0; rw [e0] at he; cases he)]
      obtain ⟨q, j, rfl, hq, hj, -⟩ := h.at_ hv he
      simp only [Int.toNat_natCast]
      rw [nTr_dep h t q hq, if_neg (by intro e; rw [e] at hj; simp at hj)]
theorem nTr_good (h : Fine N) {t v : Nat} (hv : v < N.ends.length) (ht : t ≤ 80) : (nTr N t v).good = true := by
  unfold VT.good
  rw [nTr_uni h t v hv, nTr_dep h t v hv]
  simp
  split <;> omega
theorem txts_etx {g : Nat → VT} {f : Nat → List UInt8} {k : Nat} (hf : ∀ u, (g u).txt k = f u) : ∀ (s : UInt8) (es : List (Int × Int)), txts k s (es.map fun e => e.2.toNat) (es.map fun e => g e.1.toNat) = etx f s es
  | s, [] => by simp [txts, etx]
  | s, e :: es => by
    simp only [List.map_cons, txts, etx]
    rw [hf, txts_etx hf 44 es]
theorem nTr_txt (N : Net) : ∀ (k t v : Nat), (nTr N t v).txt k = ntx N (min k t) v
  | 0, t, v => by
    rw [Nat.zero_min]
    cases t <;> simp [nTr, txt_mk, ntx, hdT]
  | k + 1, 0, v => by simp [nTr, txt_mk, ntx, hdT]
  | k + 1, t + 1, v => by
    rw [Nat.succ_min_succ, ntx_succ]
    simp only [nTr, txt_mk, hdT, List.cons_append, List.nil_append, Nat.add_sub_cancel]
    by_cases h0 : gl N.ends v = []
    · simp [h0]
    · rw [txts_etx (fun u => nTr_txt N k t u)]
      simp [h0]
theorem cuts_map {α : Type} {g : α → VT} (k : Nat) : ∀ (es : List α), cuts k (es.map g) = es.map fun e => (g e).cut k
  | [] => by simp [cuts]
  | e :: es => by simp only [List.map_cons, cuts, cuts_map k es]
theorem nTr_cut (N : Net) : ∀ (k t v : Nat), (nTr N t v).cut k = nTr N (min k t) v
  | 0, t, v => by
    rw [Nat.zero_min]
    cases t <;> simp [nTr, VT.cut]
  | k + 1, 0, v => by simp [nTr, VT.cut]
  | k + 1, t + 1, v => by
    rw [Nat.succ_min_succ]
    simp only [nTr, VT.cut, Nat.add_sub_cancel]
    by_cases h0 : gl N.ends v = []
    · simp [h0]
    · rw [cuts_map]
      simp [h0, nTr_cut N k t]
/-- the text of a view reads as its tree -/
theorem viewOf_ntx (h : Fine N) {t v : Nat} (hv : v < N.ends.length) (ht : t ≤ 80) (hl : (ntx N t v).length ≤ 4000) : viewOf (strB (ntx N t v)) = some (nTr N t v) := by
  have e : (nTr N t v).txt t = ntx N t v := by rw [nTr_txt, Nat.min_self]
  have e2 : (nTr N t v).cut t = nTr N t v := by rw [nTr_cut, Nat.min_self]
  unfold viewOf
  rw [if_pos (by rw [strB_size]; exact hl), strB_from, ← e, pg_txt (nTr_wf h t v hv) (nTr_good h hv ht) (by rw [strB_size]; omega), e2]
theorem ntx_tree (h : Fine N) {t u v : Nat} (hu : u < N.ends.length) (hv : v < N.ends.length) : ntx N t u = ntx N t v ↔ nTr N t u = nTr N t v := by
  have e : ∀ u, (nTr N t u).txt t = ntx N t u := fun u => by rw [nTr_txt, Nat.min_self]
  have e2 : ∀ u, (nTr N t u).cut t = nTr N t u := fun u => by rw [nTr_cut, Nat.min_self]
  constructor
  · intro hx
    have h1 := pv_txt (nTr N t u) t (ntx N t u).length [] (nTr_wf h t u hu) (by rw [e]; exact Nat.le_refl _) (by simp)
    have h2 := pv_txt (nTr N t v) t (ntx N t u).length [] (nTr_wf h t v hv) (by rw [e, hx]; exact Nat.le_refl _) (by simp)
    rw [e, e2] at h1 h2
    rw [← hx, h1] at h2
    simp only [Option.some.injEq, Prod.mk.injEq, and_true] at h2
    exact h2
  · intro hx
    rw [← e, ← e, hx]
theorem nTr_vk (h : Fine N) : ∀ (t u v : Nat), u < N.ends.length → v < N.ends.length → (nTr N t u = nTr N t v ↔ vk N t u = vk N t v)
  | 0, u, v, hu, hv => by
    show _ ↔ vkey N none u = vkey N none v
    rw [vkey_none]
    simp only [nTr, VT.mk.injEq, and_true]
    have := h.inp u hu
    have := h.inp v hv
    constructor <;> rintro ⟨h1, h2⟩ <;> exact ⟨h1, by omega⟩
  | t + 1, u, v, hu, hv => by
    show _ ↔ vkey N (some (vcls N t)) u = vkey N (some (vcls N t)) v
    rw [vkey_some]
    simp only [nTr, VT.mk.injEq]
    have i1 := h.inp u hu
    have i2 := h.inp v hv
    have key : ∀ (hl : (gl N.ends u).length = (gl N.ends v).length) (i : Nat), i < (gl N.ends u).length → (nTr N t (gp (gl N.ends u) i).1.toNat = nTr N t (gp (gl N.ends v) i).1.toNat ↔ gi (vcls N t) (gp (gl N.ends u) i).1.toNat = gi (vcls N t) (gp (gl N.ends v) i).1.toNat) := fun hl i hi => by
      obtain ⟨q, j, e1, hq, -, -⟩ := h.at_ hu (e := gp (gl N.ends u) i) (by rw [gp_lt hi]; exact List.getElem_mem _)
      obtain ⟨q', j', e2, hq', -, -⟩ := h.at_ hv (e := gp (gl N.ends v) i) (by rw [gp_lt (by omega)]; exact List.getElem_mem _)
      rw [e1, e2]
      simp only [Int.toNat_natCast]
      rw [nTr_vk h t q q' hq hq', vcls_iff hq hq']
    constructor
    · rintro ⟨h1, h2, h3, h4⟩
      refine ⟨h1, by omega, fun i hi => ?_⟩
      have a1 := congrArg (fun l => l[i]?) h3
      have a2 := congrArg (fun l => l[i]?) h4
      have hi2 : i < (gl N.ends v).length := by omega
      simp only [List.getElem?_map, List.getElem?_eq_getElem hi, List.getElem?_eq_getElem hi2, Option.map_some, Option.some.injEq] at a1 a2
      rw [← gp_lt hi, ← gp_lt hi2] at a1 a2
      obtain ⟨q, j, e1, -, -, -⟩ := h.at_ hu (e := gp (gl N.ends u) i) (by rw [gp_lt hi]; exact List.getElem_mem _)
      obtain ⟨q', j', e2, -, -, -⟩ := h.at_ hv (e := gp (gl N.ends v) i) (by rw [gp_lt hi2]; exact List.getElem_mem _)
      refine ⟨?_, (key h1 i hi).1 a2⟩
      rw [e1, e2] at a1 ⊢
      simp only [Int.toNat_natCast] at a1
      simp only
      omega
    · rintro ⟨h1, h2, h3⟩
      refine ⟨h1, by omega, ?_, ?_⟩
      · refine List.ext_getElem (by simpa using h1) fun i hi hi' => ?_
        simp only [List.length_map] at hi hi'
        have := (h3 i hi).1
        rw [List.getElem_map, List.getElem_map, ← gp_lt hi, ← gp_lt hi', this]
      · refine List.ext_getElem (by simpa using h1) fun i hi hi' => ?_
        simp only [List.length_map] at hi hi'
        have := (key h1 i hi).2 (h3 i hi).2
        rw [List.getElem_map, List.getElem_map, ← gp_lt hi, ← gp_lt hi', this]
/-- equal classes, equal texts -/
theorem class_ntx (h : Fine N) {t u v : Nat} (hu : u < N.ends.length) (hv : v < N.ends.length) : gi (vcls N t) u = gi (vcls N t) v ↔ ntx N t u = ntx N t v := by
  rw [vcls_iff hu hv, ← nTr_vk h t u v hu hv, ← ntx_tree h hu hv]
end
section
variable {M N : Net}
theorem nTr_union1 (hM : Fine M) (h1 : M.inputs.length = M.ends.length) : ∀ (t v : Nat), v < M.ends.length → nTr (unionN M N) t v = nTr M t v := fun t => by
  have eg : ∀ v, v < M.ends.length → gl (unionN M N).ends v = gl M.ends v := fun v hv => unionE_gl1 hv
  have ei : ∀ v, v < M.ends.length → gi (unionN M N).inputs v = gi M.inputs v := fun v hv => by
    show gi (M.inputs ++ N.inputs) v = _
    unfold gi
    rw [List.getD_eq_getElem?_getD, List.getD_eq_getElem?_getD, List.getElem?_append_left (by omega)]
  induction t with
  | zero => intro v hv; simp only [nTr, eg v hv, ei v hv]
  | succ t ih =>
    intro v hv
    simp only [nTr, eg v hv, ei v hv, VT.mk.injEq, true_and]
    refine List.map_congr_left fun e he => ?_
    obtain ⟨q, j, rfl, hq, -, -⟩ := hM.at_ hv he
    simp only [Int.toNat_natCast]
    exact ih q hq
theorem nTr_union2 (hN : Fine N) (h1 : M.inputs.length = M.ends.length) : ∀ (t v : Nat), v < N.ends.length → nTr (unionN M N) t (M.ends.length + v) = nTr N t v := fun t => by
  have eg : ∀ v, v < N.ends.length → gl (unionN M N).ends (M.ends.length + v) = shiftE M.ends.length (gl N.ends v) := fun v hv => unionE_gl2 hv
  have ei : ∀ v, v < N.ends.length → gi (unionN M N).inputs (M.ends.length + v) = gi N.inputs v := fun v hv => by
    show gi (M.inputs ++ N.inputs) (M.ends.length + v) = _
    unfold gi
    rw [List.getD_eq_getElem?_getD, List.getD_eq_getElem?_getD, List.getElem?_append_right (by omega), h1]
    congr 2; omega
  induction t with
  | zero => intro v hv; simp only [nTr, eg v hv, ei v hv]; simp [shiftE]
  | succ t ih =>
    intro v hv
    simp only [nTr, eg v hv, ei v hv, VT.mk.injEq, true_and, shiftE, List.map_map, List.length_map]
    refine ⟨rfl, List.map_congr_left fun e he => ?_⟩
    obtain ⟨q, j, rfl, hq, -, -⟩ := hN.at_ hv he
    simp only [Function.comp]
    have : ((q : Int) + (M.ends.length : Int)).toNat = M.ends.length + q := by omega
    rw [this, Int.toNat_natCast]
    exact ih q hq
/-- views of nodes of two networks: equal classes in both together, equal texts -/
theorem class_two (hM : Fine M) (hN : Fine N) (h1 : M.inputs.length = M.ends.length) {t u v : Nat} (hu : u < M.ends.length) (hv : v < N.ends.length) :
    gi (vcls (unionN M N) t) u = gi (vcls (unionN M N) t) (M.ends.length + v) ↔ ntx M t u = ntx N t v := by
  have hl : (unionN M N).ends.length = M.ends.length + N.ends.length := unionE_len _ _
  rw [class_ntx (hM.union hN h1) (by omega) (by omega)]
  have e1 : ∀ {X : Net} {w}, (nTr X t w).txt t = ntx X t w := by intro X w; rw [nTr_txt, Nat.min_self]
  rw [← e1, ← e1, nTr_union1 hM h1 t u hu, nTr_union2 hN h1 t v hv, e1, e1]
end
end Go.Proofs.YtljjbhihllnnaaaGreat
