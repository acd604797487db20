/- Parts of the proof, joined: Mpv, Pkp, Kye. -/
import Derived.Test.YtkbhbbehidhknaaChecked
import Derived.Test.YtkbhbbehidhknaaCJn0
import Derived.Maps.OwnSet
import Derived.DeepKeys4
namespace Go.Proofs.Ytkbhbbehidhknaa
open Go.RowKit Go.Maps

/-- an element read as itself -/
def heldE (v : Value) : Option (DataW Value × List MemPlace) := some (.held v, [])

/-- block b is a map of s entries; f tells the element at each key -/
def OwnM (w : World) (k : TypeId) (b s : Nat) (f : Value → Option Value) : Prop :=
  ∃ D : DataW Value, w.ownsMap Try.prog k heldE b s D ∧ size D = s ∧ ∀ key kl, keyOf Try.prog k key = some kl → has D kl = (f key).isSome ∧ ∀ z, D.atKey kl z = match f key with | some v => .held v | none => z

section
variable {w w' : World} {k t e : TypeId} {b s : Nat} {f : Value → Option Value}
theorem OwnM.made (w : World) (k : TypeId) : OwnM (w.alloc (.map #[] 0)) k w.heap.size 0 (fun _ => none) :=
  ⟨.map [], World.ownsMap_made _ _ _ _, rfl, fun _ _ _ => ⟨rfl, fun _ => rfl⟩⟩
theorem OwnM.lt (h : OwnM w k b s f) : b < w.heap.size := by obtain ⟨D, h, -⟩ := h; exact h.lt
theorem OwnM.kept {row : Option Nat} (h : OwnM w k b s f) (hg : w.grownBy w' row) (hne : some b ≠ row) : OwnM w' k b s f := by
  obtain ⟨D, h1, h2⟩ := h; exact ⟨D, h1.kept hg hne, h2⟩
theorem OwnM.below (h : OwnM w k b s f) (hb : Below w.heap.size w w') : OwnM w' k b s f := by
  have hl := h.lt
  obtain ⟨D, ⟨es, clock, h1, h3⟩, h2⟩ := h
  exact ⟨D, ⟨es, clock, (hb.block b hl).trans h1, h3⟩, h2⟩
theorem OwnM.far (h : OwnM w k b s f) {a : Addr} (ha : b ≠ a.block) (u : Value) : OwnM (w.setCell a u) k b s f := by
  obtain ⟨D, h1, h2⟩ := h; exact ⟨D, h1.setCell ha u, h2⟩
theorem OwnM.congr {g : Value → Option Value} (h : OwnM w k b s f) (hg : ∀ key kl, keyOf Try.prog k key = some kl → g key = f key) : OwnM w k b s g := by
  obtain ⟨D, h1, h2, h3⟩ := h
  exact ⟨D, h1, h2, fun key kl hk => by rw [hg key kl hk]; exact h3 key kl hk⟩
theorem OwnM.look (h : OwnM w k b s f) (K : Keyed Try.prog k) (ht : Try.prog.underlying t = some (.map k e)) {z : Value} (hz : (zeroValue e).run Try.prog w = .ok z w) {key : Value} {kl : Lit} (hkey : keyOf Try.prog k key = some kl) :
    (Instr.lookup t (.map (some b)) key false).run Try.prog w = .ok ((f key).getD z) w := by
  obtain ⟨D, h1, -, h3⟩ := h
  obtain ⟨v, ps, hr, hv⟩ := h1.lookup K ht hz (rfl : heldE z = some (.held z, [])) hkey
  obtain ⟨-, h5⟩ := h3 key kl hkey
  rw [h5] at hv
  rw [hr]
  cases hf : f key with
  | none => rw [hf] at hv; simp [heldE] at hv; rw [hv.1]; rfl
  | some x => rw [hf] at hv; simp [heldE] at hv; rw [hv.1]; rfl
theorem OwnM.look_ok (h : OwnM w k b s f) (K : Keyed Try.prog k) (ht : Try.prog.underlying t = some (.map k e)) {z : Value} (hz : (zeroValue e).run Try.prog w = .ok z w) {key : Value} {kl : Lit} (hkey : keyOf Try.prog k key = some kl) :
    (Instr.lookup t (.map (some b)) key true).run Try.prog w = .ok (.tuple #[(f key).getD z, .bool (f key).isSome]) w := by
  obtain ⟨D, h1, -, h3⟩ := h
  obtain ⟨v, ps, hr, hv⟩ := h1.look_ok K ht hz (rfl : heldE z = some (.held z, [])) hkey
  obtain ⟨h4, h5⟩ := h3 key kl hkey
  rw [h5] at hv
  rw [hr, h4]
  cases hf : f key with
  | none => rw [hf] at hv; simp [heldE] at hv; rw [hv.1]; rfl
  | some x => rw [hf] at hv; simp [heldE] at hv; rw [hv.1]; rfl
theorem OwnM.len (h : OwnM w k b s f) (ht : Try.prog.underlying t = some (.map k e)) (ty : TypeId) : (Builtin.len_ #[t] ty #[.map (some b)]).run Try.prog w = .ok (.int .i64 s) w := by
  obtain ⟨D, h1, h2, -⟩ := h
  rw [h1.len ht ty, h2]
theorem OwnM.put (h : OwnM w k b s f) (K : Keyed Try.prog k) (ht : Try.prog.underlying t = some (.map k e)) (hs : s < maxLen) {key : Value} {kl : Lit} (hkey : keyOf Try.prog k key = some kl) (v : Value) :
    ∃ w', (Instr.mapUpdate t (.map (some b)) key v).run Try.prog w = .ok () w' ∧ w.grownBy w' (some b) ∧
      ∀ g : Value → Option Value, g key = some v → (∀ key' kl', keyOf Try.prog k key' = some kl' → key' ≠ key → g key' = f key') → OwnM w' k b (if (f key).isSome = true then s else s + 1) g := by
  obtain ⟨D, h1, h2, h3⟩ := h
  obtain ⟨w', hr, h4, h5⟩ := h1.update K ht hs hkey (rfl : heldE v = some (.held v, []))
  refine ⟨w', hr, h5, fun g hg hg' => ⟨D.put kl (.held v), ?_, ?_, fun key' kl' hk' => ?_⟩⟩
  · have hsz := size_put (h1.tidy K) (DataW.held v : DataW Value) (k := kl)
    obtain ⟨es, clock, e1, e2, e3, e4⟩ := h4
    refine ⟨es, clock, e1, e2, ?_, e4⟩
    have e5 : size (D.put kl (.held v)) = es.size := by rw [e4]; simp [Maps.size, length_sorted]
    rw [e5, (h3 key kl hkey).1, h2] at hsz
    rw [hsz]
    exact Nat.le_refl _
  · rw [size_put (h1.tidy K), (h3 key kl hkey).1, h2]
  · by_cases e : key' = key
    · subst e
      have hkk : kl' = kl := by rw [hkey] at hk'; exact (Option.some.inj hk').symm
      subst hkk
      rw [hg]
      exact ⟨has_put_same h1.isMap (K.key hkey) _, fun z => atKey_put_same h1.isMap (K.key hkey) _ _⟩
    · have hne : kl' ≠ kl := fun e2 => e (K.inj (by rw [← e2]; exact hk') hkey)
      rw [hg' key' kl' hk' e, has_put_other hne]
      refine ⟨(h3 key' kl' hk').1, fun z => ?_⟩
      rw [atKey_put_other hne]
      exact (h3 key' kl' hk').2 z
end

/-- 'm[k] = v' at the operation -/
theorem wpList_put_m (w : World) {ops : Array Oper} {rest : List Oper} {o : Oper} {a : Act} {Q : Exit → Act → World → Prop} (hgd : o.guard = none) (m x v : Operand) (t : TypeId) (hop : o.op = Op.mapUpdate t m x v)
    {k e : TypeId} {b s : Nat} {f : Value → Option Value} (K : Keyed Try.prog k) (ht : Try.prog.underlying t = some (.map k e)) (hm : a.eval m = .map (some b)) (h : OwnM w k b s f) (hs : s < maxLen) (key val : Value) (hx : a.eval x = key) (hv : a.eval v = val) {kl : Lit} (hkey : keyOf Try.prog k key = some kl)
    (hK : ∀ w', w.grownBy w' (some b) → (∀ g : Value → Option Value, g key = some val → (∀ key' kl', keyOf Try.prog k key' = some kl' → key' ≠ key → g key' = f key') → OwnM w' k b (if (f key).isSome = true then s else s + 1) g) → wpList Try.prog ops Q rest (a.put o.dst undef) w') :
    wpList Try.prog ops Q (o :: rest) a w := by
  refine wpList_plain hgd fun K' hK' => ?_
  obtain ⟨w', hrun, r1, r2⟩ := h.put K ht hs hkey val
  unfold Oper.wp
  simp [execOp, hop, hm, hx, hv, hrun, Result.andThen]
  exact hK' _ _ (hK w' r1 r2)
/-- 'v, ok := m[k]', 'v := m[k]' at the operation -/
theorem wpList_look_ok_m (w : World) {ops : Array Oper} {rest : List Oper} {o : Oper} {a : Act} {Q : Exit → Act → World → Prop} (hgd : o.guard = none) (m x : Operand) (t : TypeId) (hop : o.op = Op.lookup t m x true)
    {k e : TypeId} {b s : Nat} {f : Value → Option Value} (K : Keyed Try.prog k) (ht : Try.prog.underlying t = some (.map k e)) {z : Value} (hz : (zeroValue e).run Try.prog w = .ok z w) (hm : a.eval m = .map (some b)) (h : OwnM w k b s f) (key : Value) (hx : a.eval x = key) {kl : Lit} (hkey : keyOf Try.prog k key = some kl)
    {r : Value} {ok : Bool} (hr : (f key).getD z = r) (hok : (f key).isSome = ok)
    (hK : wpList Try.prog ops Q rest (a.put o.dst (.tuple #[r, .bool ok])) w) :
    wpList Try.prog ops Q (o :: rest) a w := by
  refine wpList_plain hgd fun K' hK' => ?_
  have hrun := h.look_ok K ht hz hkey
  rw [hr, hok] at hrun
  unfold Oper.wp
  simp [execOp, hop, hm, hx, hrun, Result.andThen]
  exact hK' _ _ hK
theorem wpList_look_m (w : World) {ops : Array Oper} {rest : List Oper} {o : Oper} {a : Act} {Q : Exit → Act → World → Prop} (hgd : o.guard = none) (m x : Operand) (t : TypeId) (hop : o.op = Op.lookup t m x false)
    {k e : TypeId} {b s : Nat} {f : Value → Option Value} (K : Keyed Try.prog k) (ht : Try.prog.underlying t = some (.map k e)) {z : Value} (hz : (zeroValue e).run Try.prog w = .ok z w) (hm : a.eval m = .map (some b)) (h : OwnM w k b s f) (key : Value) (hx : a.eval x = key) {kl : Lit} (hkey : keyOf Try.prog k key = some kl)
    {r : Value} (hr : (f key).getD z = r) (hK : wpList Try.prog ops Q rest (a.put o.dst r) w) :
    wpList Try.prog ops Q (o :: rest) a w := by
  refine wpList_plain hgd fun K' hK' => ?_
  have hrun := h.look K ht hz hkey
  rw [hr] at hrun
  unfold Oper.wp
  simp [execOp, hop, hm, hx, hrun, Result.andThen]
  exact hK' _ _ hK

/-! keys -/
theorem wf64 {x : Int} (h1 : -9223372036854775808 ≤ x) (h2 : x ≤ 9223372036854775807) : (Lit.int .i64 x).wf = true := WalkArith.wf_i64 (by omega)
theorem mapM_ex {α β : Type} {f : α → Option β} : ∀ {l : List α}, (∀ i ∈ l, ∃ y, f i = some y) → ∃ ys, l.mapM f = some ys
  | [], _ => ⟨[], by simp⟩
  | a :: l, h => by
    obtain ⟨y, hy⟩ := h a (by simp)
    obtain ⟨ys, hys⟩ := mapM_ex (l := l) (fun i hi => h i (by simp [hi]))
    exact ⟨y :: ys, by simp [List.mapM_cons, hy, hys]⟩
theorem keyLits_int {P : Program} {m : Nat} {t : TypeId} (ht : P.underlying t = some (.int .i64)) {x : Int} (hx : (Lit.int .i64 x).wf = true) : P.keyLits (m + 1) t [.int .i64 x] = some [.int .i64 x] := by
  simp [Program.keyLits, ht, hx]
/-- an array of ints is a key -/
theorem keyOf_arr {k ie : TypeId} {n : Nat} (hu : Try.prog.underlying k = some (.array n ie)) (hi : Try.prog.underlying ie = some (.int .i64)) (hc : Try.prog.cellsOf k = n) (hci : Try.prog.cellsOf ie = 1) (hkt : Try.prog.keyType k = true) (hsz : ∃ m, Try.prog.types.size = m + 1)
    (xs : List Int) (hl : xs.length = n) (hx : ∀ x ∈ xs, (Lit.int .i64 x).wf = true) : ∃ kl, keyOf Try.prog k (.agg (xs.map (Value.int .i64)).toArray) = some kl := by
  obtain ⟨m, hm⟩ := hsz
  unfold keyOf
  simp only [hu]
  rw [if_pos (by simp [hkt, Value.formed, hu, hc, hl]), hm]
  unfold Program.keyLits
  simp only [hu, Value.cells, hc, hci, Nat.mul_one]
  rw [if_pos (by simp [hl])]
  obtain ⟨ys, hys⟩ := mapM_ex (l := List.range n) (f := fun i => Try.prog.keyLits (m + 1) ie (((xs.map (Value.int .i64)).drop i).take 1)) (fun i hi' => by
    have hin : i < xs.length := by rw [hl]; exact List.mem_range.1 hi'
    refine ⟨[.int .i64 xs[i]], ?_⟩
    have e1 : ((xs.map (Value.int .i64)).drop i).take 1 = [.int .i64 xs[i]] := by
      rw [List.drop_eq_getElem_cons (by simpa using hin)]
      simp
    rw [e1]
    exact keyLits_int hi (hx _ (List.getElem_mem hin)))
  rw [hys]
  exact ⟨_, rfl⟩
end Go.Proofs.Ytkbhbbehidhknaa

namespace Go.Proofs.Ytkbhbbehidhknaa
open Go.RowKit

theorem placeK_zero (keep : Nat → Nat → Bool) (k : Nat) : placeK keep k 0 = 0 := rfl
theorem placeK_yes {keep : Nat → Nat → Bool} {k i : Nat} (h : keep k i = true) : placeK keep k (i + 1) = placeK keep k i + 1 := by
  unfold placeK
  rw [List.range_succ, List.filter_append]
  simp [h]
theorem placeK_no {keep : Nat → Nat → Bool} {k i : Nat} (h : keep k i = false) : placeK keep k (i + 1) = placeK keep k i := by
  unfold placeK
  rw [List.range_succ, List.filter_append]
  simp [h]
theorem placeK_le (keep : Nat → Nat → Bool) (k i : Nat) : placeK keep k i ≤ i := by
  unfold placeK
  exact Nat.le_trans (List.length_filter_le _ _) (by simp)
/-- where a kept port's other end comes to -/
def movK (keep : Nat → Nat → Bool) (e : Int × Int) : Int × Int := (e.1, (placeK keep e.1.toNat e.2.toNat : Int))
/-- the kept ones of the first j ports of a node -/
def rowK (ess : List (List (Int × Int))) (keep : Nat → Nat → Bool) (k j : Nat) : List (Int × Int) := ((List.range j).filter (keep k)).map fun i => movK keep (pt ess k i)
theorem rowK_zero (ess : List (List (Int × Int))) (keep : Nat → Nat → Bool) (k : Nat) : rowK ess keep k 0 = [] := rfl
theorem rowK_yes {ess : List (List (Int × Int))} {keep : Nat → Nat → Bool} {k j : Nat} (h : keep k j = true) : rowK ess keep k (j + 1) = rowK ess keep k j ++ [movK keep (pt ess k j)] := by
  unfold rowK
  rw [List.range_succ, List.filter_append, List.map_append]
  simp [h]
theorem rowK_no {ess : List (List (Int × Int))} {keep : Nat → Nat → Bool} {k j : Nat} (h : keep k j = false) : rowK ess keep k (j + 1) = rowK ess keep k j := by
  unfold rowK
  rw [List.range_succ, List.filter_append, List.map_append]
  simp [h]
theorem rowK_done (ess : List (List (Int × Int))) (keep : Nat → Nat → Bool) (k : Nat) : rowK ess keep k (dg ess k) = partL ess keep k := rfl
theorem rowK_len (ess : List (List (Int × Int))) (keep : Nat → Nat → Bool) (k j : Nat) : (rowK ess keep k j).length ≤ j := by
  unfold rowK
  rw [List.length_map]
  exact placeK_le keep k j
/-- the rows of the first k nodes -/
def upK (ess : List (List (Int × Int))) (keep : Nat → Nat → Bool) (k : Nat) : List (List (Int × Int)) := (List.range k).map (partL ess keep)
theorem upK_len (ess : List (List (Int × Int))) (keep : Nat → Nat → Bool) (k : Nat) : (upK ess keep k).length = k := by simp [upK]
theorem upK_succ (ess : List (List (Int × Int))) (keep : Nat → Nat → Bool) (k : Nat) : upK ess keep (k + 1) = upK ess keep k ++ [partL ess keep k] := by simp [upK, List.range_succ]
theorem upK_done (ess : List (List (Int × Int))) (keep : Nat → Nat → Bool) : upK ess keep ess.length = partK ess keep := rfl

/-- a port as a key -/
def endV (q i : Int) : Value := .agg #[.int .i64 q, .int .i64 i]
theorem endV_inj {a b c d : Int} (h : endV a b = endV c d) : a = c ∧ b = d := by
  unfold endV at h
  simp only [Value.agg.injEq, Array.mk.injEq, List.cons.injEq, Value.int.injEq, true_and, and_true] at h
  exact h
/-- the map knows the places of the kept ports ahead of the port j of node k -/
def PlK (ess : List (List (Int × Int))) (keep : Nat → Nat → Bool) (f : Value → Option Value) (k j : Nat) : Prop :=
  ∀ b i : Nat, (b < k ∨ (b = k ∧ i < j)) → i < dg ess b → keep b i = true → f (endV b i) = some (endV b (placeK keep b i))
theorem PlK.start {ess : List (List (Int × Int))} {keep : Nat → Nat → Bool} {f : Value → Option Value} : PlK ess keep f 0 0 := fun b i h => by omega
theorem PlK.row {ess : List (List (Int × Int))} {keep : Nat → Nat → Bool} {f : Value → Option Value} {k j : Nat} (h : PlK ess keep f k j) (hj : dg ess k ≤ j) : PlK ess keep f (k + 1) 0 := fun b i hb hi hk => by
  refine h b i ?_ hi hk
  by_cases e : b = k
  · subst e; right; exact ⟨rfl, by omega⟩
  · left; omega
theorem PlK.no {ess : List (List (Int × Int))} {keep : Nat → Nat → Bool} {f : Value → Option Value} {k j : Nat} (h : PlK ess keep f k j) (hn : keep k j = false) : PlK ess keep f k (j + 1) := fun b i hb hi hk => by
  refine h b i ?_ hi hk
  by_cases e : b = k
  · subst e
    by_cases e2 : i = j
    · subst e2; rw [hn] at hk; cases hk
    · right; exact ⟨rfl, by omega⟩
  · left; omega
open Classical in
/-- a map with one more key -/
noncomputable def putF (f : Value → Option Value) (key v : Value) : Value → Option Value := fun x => if x = key then some v else f x
theorem putF_at (f : Value → Option Value) (key v : Value) : putF f key v key = some v := by unfold putF; rw [if_pos rfl]
theorem putF_far (f : Value → Option Value) {key v x : Value} (h : x ≠ key) : putF f key v x = f x := by unfold putF; rw [if_neg h]
theorem PlK.yes {ess : List (List (Int × Int))} {keep : Nat → Nat → Bool} {f : Value → Option Value} {k j : Nat} (h : PlK ess keep f k j) : PlK ess keep (putF f (endV k j) (endV k (placeK keep k j))) k (j + 1) := fun b i hb hi hk => by
  by_cases e : b = k ∧ i = j
  · obtain ⟨rfl, rfl⟩ := e
    rw [putF_at]
  · rw [putF_far f (fun e2 => e (by have := endV_inj e2; omega))]
    exact h b i (by omega) hi hk

/-- the port g and its other end o are left out: what is kept is kept at both ends -/
theorem keepB_sym {ess : List (List (Int × Int))} (hs : Sym ess) {v i : Nat} (hv : v < ess.length) (hi : i < dg ess v) {k j : Nat} (hk : k < ess.length) (hj : j < dg ess k) (h : keepB ((v : Int), (i : Int)) (pt ess v i) k j = true) :
    ∃ q jj : Nat, pt ess k j = ((q : Int), (jj : Int)) ∧ q < ess.length ∧ jj < dg ess q ∧ keepB ((v : Int), (i : Int)) (pt ess v i) q jj = true := by
  obtain ⟨q, jj, e1, hq, hjj, e2⟩ := hs k j hk hj
  refine ⟨q, jj, e1, hq, hjj, ?_⟩
  obtain ⟨b, c, e3, hb, hc, e4⟩ := hs v i hv hi
  rw [e3] at h ⊢
  unfold keepB at h ⊢
  simp only [Bool.and_eq_true, Bool.not_eq_true', beq_eq_false_iff_ne, ne_eq, Prod.mk.injEq, not_and] at h ⊢
  refine ⟨fun a1 a2 => ?_, fun a1 a2 => ?_⟩
  · obtain rfl : q = v := by omega
    obtain rfl : jj = i := by omega
    rw [e2] at e3
    simp only [Prod.mk.injEq] at e3
    exact h.2 e3.1 e3.2
  · obtain rfl : q = b := by omega
    obtain rfl : jj = c := by omega
    rw [e2] at e4
    simp only [Prod.mk.injEq] at e4
    exact h.1 e4.1 e4.2
end Go.Proofs.Ytkbhbbehidhknaa

namespace Go.Proofs.Ytkbhbbehidhknaa
open Go.RowKit Go.Maps

theorem end_keyed : Keyed Try.prog 35 := Keyed.of_law (deep_law_laid (by kernel_rfl) (m := 2) (by omega) (of_decide_eq_true (by kernel_rfl)) (by kernel_rfl) (by rw [Try.underlying35]))
theorem cells_end : Try.prog.cellsOf 35 = 2 := by kernel_rfl
theorem cells_int' : Try.prog.cellsOf 3 = 1 := by kernel_rfl
theorem keyType_end : Try.prog.keyType 35 = true := by kernel_rfl
theorem pos_some {n : Nat} (h : 0 < n) : ∃ m, n = m + 1 := ⟨n - 1, by omega⟩
theorem types_some : ∃ m, Try.prog.types.size = m + 1 := by
  have h : (0 : Nat) < Try.prog.types.size := of_decide_eq_true (by kernel_rfl)
  exact pos_some h
theorem keyOf_end {q i : Int} (hq : (Lit.int .i64 q).wf = true) (hi : (Lit.int .i64 i).wf = true) : ∃ kl, keyOf Try.prog 35 (endV q i) = some kl := by
  obtain ⟨m, hm⟩ := types_some
  unfold keyOf endV
  simp only [Try.underlying35]
  rw [if_pos (by simp [keyType_end, Value.formed, Try.underlying35, cells_end]), hm]
  unfold Program.keyLits
  simp [Try.underlying35, Value.cells, cells_end, cells_int', keyLits_int Try.underlying3, hq, hi]
theorem keyOf_port (q i : Nat) (hq : q ≤ 1048576) (hi : i ≤ 1048576) : ∃ kl, keyOf Try.prog 35 (endV q i) = some kl := keyOf_end (wf64 (by omega) (by omega)) (wf64 (by omega) (by omega))
theorem zero_end (w : World) : (zeroValue 35).run Try.prog w = .ok (endV 0 0) w := by kernel_rfl
theorem under_map : Try.prog.underlying 78 = some (.map 35 35) := Try.underlying78
end Go.Proofs.Ytkbhbbehidhknaa
