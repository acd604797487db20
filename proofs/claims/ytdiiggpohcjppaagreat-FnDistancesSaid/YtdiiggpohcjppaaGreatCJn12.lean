/- Parts of the proof, joined: Do, Dp, Dq. -/
import Derived.Test.YtdiiggpohcjppaaGreatCJn9
import Derived.Deep.LoopGhost
set_option linter.unusedSimpArgs false
set_option linter.unusedVariables false
namespace Go.Proofs.YtdiiggpohcjppaaGreat
section
open Go Go.RowKit
section
variable {P : Program} {w0 : Base}
def DW (P : Program) (w0 : Base) (c : Code) (Q : Exit → Env → Prop) (e : Env) : Prop := ∀ a w, St w0 e a w → c.wp P (fun ex a' w' => ∃ e', Q ex e' ∧ St w0 e' a' w') a w
def Weak (e e' : Env) : Prop := ∀ w0 a w, St w0 e a w → St w0 e' a w
theorem Weak.refl (e : Env) : Weak e e := fun _ _ _ h => h
theorem Weak.trans {a b c : Env} (h : Weak a b) (k : Weak b c) : Weak a c := fun w0 x w hs => k w0 x w (h w0 x w hs)
theorem dw_weak {c : Code} {Q : Exit → Env → Prop} {e e' : Env} (h : Weak e e') (k : DW P w0 c Q e') : DW P w0 c Q e := fun a w hs => k a w (h w0 a w hs)
theorem dw_mono {c : Code} {Q Q' : Exit → Env → Prop} {e : Env} (hQ : ∀ ex e, Q ex e → Q' ex e) (h : DW P w0 c Q e) : DW P w0 c Q' e := fun a w hs => wp_mono (h a w hs) fun _ _ _ ⟨e', h1, h2⟩ => ⟨e', hQ _ _ h1, h2⟩
def thenD (next : Env → Prop) (Q : Exit → Env → Prop) : Exit → Env → Prop
 | .normal, e => next e
 | ex, e => Q ex e
theorem dw_seq {x y : Code} {Q : Exit → Env → Prop} {e : Env} (h : DW P w0 x (thenD (DW P w0 y Q) Q) e) : DW P w0 (.seq x y) Q e := fun a w hs => by
 refine wp_seq (wp_mono (h a w hs) ?_)
 rintro ex a' w' ⟨e', h1, h2⟩
 cases ex <;> first | exact h1 a' w' h2 | exact ⟨e', h1, h2⟩
theorem dw_skip {Q : Exit → Env → Prop} {e : Env} (h : Q .normal e) : DW P w0 .skip Q e := fun _ _ hs => wp_skip ⟨e, h, hs⟩
theorem dw_exit {id : Nat} {Q : Exit → Env → Prop} {e : Env} (h : Q (.exit id) e) : DW P w0 (.exit id) Q e := fun _ _ hs => wp_exit ⟨e, h, hs⟩
theorem dw_ret {Q : Exit → Env → Prop} {e : Env} (h : Q .ret e) : DW P w0 .ret Q e := fun _ _ hs => wp_ret ⟨e, h, hs⟩
def blockD (id : Nat) (Q : Exit → Env → Prop) : Exit → Env → Prop
 | .exit id', e => if id' = id then Q .normal e else Q (.exit id') e
 | ex, e => Q ex e
theorem dw_block {id : Nat} {c : Code} {Q : Exit → Env → Prop} {e : Env} (h : DW P w0 c (blockD id Q) e) : DW P w0 (.block id c) Q e := fun a w hs => by
 refine wp_block (wp_mono (h a w hs) ?_)
 rintro ex a' w' ⟨e', h1, h2⟩
 cases ex with
 | exit id' =>
  show (if id' = id then _ else _)
  have h1 : (if id' = id then Q .normal e' else Q (.exit id') e') := h1
  split
  ·rename_i hi; rw [if_pos hi] at h1; exact ⟨e', h1, h2⟩
  ·rename_i hi; rw [if_neg hi] at h1; exact ⟨e', h1, h2⟩
 | _ => exact ⟨e', h1, h2⟩
def condV (e : Env) : Operand → Option Bool
 | .tmp s => match e.s s with
  | .c (.p (.bool b)) => some b
  | _ => none
 | .const (.bool b) => some b
 | _ => none
theorem condV_eval {e : Env} {c : Operand} {b : Bool} {a : Act} {w : World} (h : condV e c = some b) (hs : St w0 e a w) : a.eval c = .bool b := by
 obtain ⟨val, S, hs⟩ := hs
 unfold condV at h
 split at h
 ·rename_i s
  have := hs.slot s
  split at h
  ·rename_i b' hb
   rw [hb] at this
   cases h
   exact ro_p this
  ·cases h
 ·cases h; rfl
 ·cases h
theorem dw_cond {c : Operand} {x y : Code} {b : Bool} {Q : Exit → Env → Prop} {e : Env} (hc : condV e c = some b) (ht : b = true → DW P w0 x Q e) (hf : b = false → DW P w0 y Q e) : DW P w0 (.cond c x y) Q e := fun a w hs =>
 wp_cond_split (condV_eval hc hs) (fun hb => ht hb a w hs) (fun hb => hf hb a w hs)
theorem dw_loop {c : Code} {Q : Exit → Env → Prop} {e : Env} {X : Type} (I : X → Prop) (env : X → Env) (μ : X → Nat) (x0 : X) (h0 : I x0) (he : Weak e (env x0))
 (round : ∀ x, I x → DW P w0 c (thenD (fun e' => ∃ x', I x' ∧ μ x' < μ x ∧ Weak e' (env x')) Q) (env x)) : DW P w0 (.loop c) Q e := fun a w hs => by
 refine wp_loop_ghost (fun n a' w' => ∃ x, μ x = n ∧ I x ∧ St w0 (env x) a' w') (μ x0) ⟨x0, rfl, h0, he w0 a w hs⟩ ?_
 rintro n a' w' ⟨x, rfl, hx, hst⟩
 refine wp_mono (round x hx a' w' hst) ?_
 rintro ex a2 w2 ⟨e', h1, h2⟩
 cases ex with
 | normal =>
  obtain ⟨x', h3, h4, h5⟩ := h1
  exact ⟨μ x', h4, x', rfl, h3, h5 w0 a2 w2 h2⟩
 | _ => exact ⟨e', h1, h2⟩
def Env.clean (e : Env) : Env :=
 { n := e.n
   s := fun s => match e.s s with
    | .ref r g p ag n => if (List.range n).all (fun i => e.okB r g (cellP p i)) = true then .ref r 0 p ag n else .dead
    | .ptr r g p k => if e.okB r g p.dropLast = true then .ptr r 0 p k else .dead
    | .clo g rs => if rs.all (fun x => e.okB x.1 x.2 []) = true then .clo g (rs.map fun x => (x.1, 0)) else .dead
    | av => av
   con := e.con
   gen := fun _ => 0
   dirty := fun _ => [] }
theorem weak_clean (e : Env) : Weak e e.clean := fun w0 a w ⟨val, S, h⟩ => by
 refine ⟨val, S, h.sz, h.defers, h.mem, fun s => ?_, h.frm, h.low, h.rts, h.sS⟩
 have hs := h.slot s
 show SV _ _ _ _ _ (match e.s s with
  | .ref r g p ag n => if (List.range n).all (fun i => e.okB r g (cellP p i)) = true then .ref r 0 p ag n else .dead
  | .ptr r g p k => if e.okB r g p.dropLast = true then .ptr r 0 p k else .dead
  | .clo g rs => if rs.all (fun x => e.okB x.1 x.2 []) = true then .clo g (rs.map fun x => (x.1, 0)) else .dead
  | av => av) _
 cases hav : e.s s with
 | ref r g p ag n =>
  rw [hav] at hs
  dsimp only
  split
  ·rename_i hok
   refine ⟨Nat.le_refl _, fun _ => hs.2 fun i hi => okB_fresh (List.all_eq_true.1 hok i (List.mem_range.2 hi))⟩
  ·trivial
 | ptr r g p k =>
  rw [hav] at hs
  dsimp only
  split
  ·rename_i hok
   exact ⟨Nat.le_refl _, fun _ => hs.2 (okB_fresh hok)⟩
  ·trivial
 | clo g rs =>
  rw [hav] at hs
  dsimp only
  split
  ·rename_i hok
   obtain ⟨vs, h1, h2, h3⟩ := hs
   refine ⟨vs, h1, by simpa using h2, fun i r g' hi => ?_⟩
   rw [List.getElem?_map] at hi
   cases hri : rs[i]? with
   | none => rw [hri] at hi; cases hi
   | some x =>
    obtain ⟨r1, g1⟩ := x
    rw [hri] at hi
    cases hi
    exact ⟨Nat.le_refl _, fun _ => (h3 i r1 g1 hri).2 (okB_fresh (List.all_eq_true.1 hok (r1, g1) (List.mem_of_getElem? hri)))⟩
  ·trivial
 | _ => rw [hav] at hs; exact hs
def mkE (n : Nat) (sl : List (Nat × AV)) (cn : List (CKey × Con)) : Env := ⟨n, fun s => (sl.lookup s).getD .dead, fun k => cn.lookup k, fun _ => 0, fun _ => []⟩
def oneCt (P : Program) (pa : Nat → List Arg → Res → Prop) (i : Nat) : Cts := fun f ro args Post => Post = pa i args ∧ XCalls P f ro args Post ∧ ∃ r, Post r
theorem dw_regionD {id : Nat} {ops : Array Oper} {Q : Exit → Env → Prop} {e : Env} (st : Nat → Stat) (pa : Nat → List Arg → Res → Prop) (hm : P.follows .mixedOrders = true) (hreg : regB ops st = true)
 (h : arun P e.n (oneCt P pa) (fun i => some (st i)) ops (List.range ops.size) e (Q .normal)) : DW P w0 (.region id ops true) Q e := fun a w hs => by
 refine wp_region_any hm (wpAny_arun (fun i f ro args Post hh => hh.2.1) (fun i f ro args P1 P2 h1 h2 => h1.1.trans h2.1.symm) (fun i f ro args P1 h1 => h1.2.2) hreg (fun e' a' w' hK hs' => ⟨e', hK, hs'⟩) ops.size _ (List.range ops.size) e a _ (by simp) (by simp) (List.pairwise_lt_range) (fun j => ?_) (fun j k hj => ?_) h rfl ?_)
 ·rw [List.mem_range]
  constructor
  ·intro hj; exact ⟨hj, by simp [hj]⟩
  ·intro hj; exact hj.1
 ·rw [getD_replicate_false] at hj; cases hj
 ·exact hs.below (Below.refl _ _).drew
end
end
section
open Go Go.RowKit
def Arg.av : Arg → AV
 | .c x => .c x
 | .agg xs => .agg xs
 | .io _ _ => .dead
 | .own ag xs => .own ag xs.length
 | .fn g css => .fn g css
 | .rp xs => .rp xs
def argsL : Nat → List Arg → List (Nat × AV)
 | _, [] => []
 | i, x :: xs => (i, x.av) :: argsL (i + 1) xs
def initE (nn : Nat) (as : List Arg) : Env := mkE nn (argsL 0 as) []
theorem argsL_lookup : ∀ (as : List Arg) (i s : Nat), (argsL i as).lookup s = if i ≤ s then (as[s - i]?).map Arg.av else none
 | [], i, s => by simp [argsL]
 | x :: xs, i, s => by
  unfold argsL
  rw [List.lookup_cons]
  by_cases h : s = i
  ·subst h; simp
  ·have : (s == i) = false := by simpa using h
   rw [this]
   simp only
   rw [argsL_lookup xs (i + 1) s]
   by_cases hi : i ≤ s
   ·rw [if_pos (by omega), if_pos hi, show s - i = (s - (i + 1)) + 1 by omega]; rfl
   ·rw [if_neg (by omega), if_neg hi]
def C.owned (c : C) : Prop := ∀ p c', c.at p = some c' → ∀ t k rows, c' ≠ .sl false t k rows
theorem owned_p (v : Value) : (C.p v).owned := fun p c' h t k rows he => by
 cases p with
 | nil => rw [at_nil] at h; cases h; cases he
 | cons s p => simp [C.at] at h
theorem owned_sl {t : TypeId} {k : Nat} {rows : List (List C)} (h : ∀ r ∈ rows, ∀ c ∈ r, c.owned) : (C.sl true t k rows).owned := fun p c' hp t' k' rows' he => by
 cases p with
 | nil => rw [at_nil] at hp; cases hp; cases he
 | cons s p =>
  obtain ⟨t2, k2, rows2, c2, he2, h3, h4⟩ := at_cons_some hp
  cases he2
  obtain ⟨r, g1, g2⟩ := rowC_some.1 h3
  exact h r (List.mem_of_getElem? g1) c2 (List.mem_of_getElem? g2) p c' h4 t' k' rows' he
inductive RE (P : Program) (e : Env) : ResultVar → RV → Prop
 | plain (s : Nat) (v : Value) : e.s s = .c (.p v) → RE P e (.tmp s) (.c (.p v))
 | aggp (s : Nat) (vs : List Value) : e.s s = .agg (vs.map C.p) → RE P e (.tmp s) (.agg (vs.map C.p))
 | own (s : Nat) (ag : Bool) (n : Nat) (xs : List C) : e.s s = .own ag n → e.con (s, 0) = some ⟨none, xs⟩ → (∀ x ∈ xs, x.owned) → RE P e (.tmp s) (.own ag xs)
 | nilo (s : Nat) (t k : Nat) : e.s s = .c (.p (.slice none 0 0)) → 0 < k → RE P e (.tmp s) (.own false [.sl true t k []])
 | cell (s : Nat) (t t' : TypeId) (ti : TI) (xs : List C) : e.s s = .box → e.con (s, 0) = some ⟨some t', xs⟩ → tabOf P t = some ti → ti.agg = true → ti.size = xs.length → (∀ x ∈ xs, x.owned) → RE P e (.cell s t) (.own true xs)
 | cellp (s : Nat) (t t' : TypeId) (ti : TI) (v : Value) : e.s s = .box → e.con (s, 0) = some ⟨some t', [.p v]⟩ → tabOf P t = some ti → ti.agg = false → RE P e (.cell s t) (.c (.p v))
def resSlot : ResultVar → Nat
 | .tmp s => s
 | .cell s _ => s
inductive REs (P : Program) (e : Env) : List ResultVar → List RV → Prop
 | nil : REs P e [] []
 | cons (v : ResultVar) (vs : List ResultVar) (r : RV) (rs : List RV) : RE P e v r → REs P e vs rs → REs P e (v :: vs) (r :: rs)
def Fin (P : Program) (fn : Func) (Post : Res → Prop) : Exit → Env → Prop
 | .normal, e | .ret, e => ∃ r, REs P e fn.results.toList r ∧ (fn.results.toList.map resSlot).Nodup ∧ Post r
 | _, _ => False
section
variable {P : Program} {w0 : Base} {e : Env} {a : Act} {w : World} {val : Val} {S : Nat → Prop}
theorem REs.length {vs : List ResultVar} {rs : List RV} (h : REs P e vs rs) : vs.length = rs.length := by
 induction h with
 | nil => rfl
 | cons v vs r rs h1 h2 ih => simp [ih]
theorem REs.at_ {vs : List ResultVar} {rs : List RV} (h : REs P e vs rs) : ∀ (i : Nat) (r : RV), rs[i]? = some r → ∃ v, vs[i]? = some v ∧ RE P e v r := by
 induction h with
 | nil => intro i r h; simp at h
 | cons v vs r rs h1 h2 ih =>
  intro i r' hi
  cases i with
  | zero => simp at hi; subst hi; exact ⟨v, rfl, h1⟩
  | succ i => simp at hi; obtain ⟨v', h3, h4⟩ := ih i r' hi; exact ⟨v', by simpa using h3, h4⟩
def Base.of (w : World) (S0 : Nat → Prop) : Base := ⟨w, fun _ => False, fun _ => undef, S0⟩
theorem Base.of_mine {w : World} {S0 : Nat → Prop} {b : Nat} (h : (Base.of w S0).mine b) : w.heap.size ≤ b := h.elim id fun h => h.elim
theorem Frm.refl (w : World) (G : Nat → Prop) (R : Nat → Value) (S0 : Nat → Prop) : Frm ⟨w, G, R, S0⟩ w := ⟨rfl, rfl, rfl, Nat.le_refl _, fun _ _ _ => rfl⟩
theorem Frm.to_below {w w' : World} {S0 : Nat → Prop} (h : Frm (Base.of w S0) w') : Below w.heap.size w w' := ⟨h.os, h.tape, h.output, h.size, fun k hk => h.block k hk id⟩
theorem argOk_S {x : Arg} {u : Value} (h : ArgOk w x u) : ArgOkS w (fun b => b < w.heap.size) x u := by
 cases x with
 | c y => exact RO.weak h fun b _ hb => hb
 | agg ys => obtain ⟨us, h3, h4⟩ := h; exact ⟨us, h3, h4.keep (fun b _ hb => hb) fun _ _ _ => rfl⟩
 | io t xs => exact h.elim
 | own ag xs => exact h.elim
 | fn g css => exact FNok.keep h (fun b _ hb => hb) fun _ _ _ => rfl
 | rp xs => exact RPok.keep h (fun b _ hb => hb) fun _ _ _ => rfl
theorem start_st {nn : Nat} {as : List Arg} {vs : Array Value} {S0 : Nat → Prop} (hn : as.length ≤ nn) (hl : vs.size = as.length) (hS : ∀ b, S0 b → b < w.heap.size) (hv : ∀ (i : Nat) (x : Arg), as[i]? = some x → ∃ u, vs[i]? = some u ∧ ArgOkS w S0 x u) :
 St (Base.of w S0) (initE nn as) { tmps := vs ++ Array.replicate (nn - vs.size) undef, defers := [] } w := by
 refine ⟨fun _ _ => undef, S0, ?_, rfl, ⟨fun key cn p c h1 => (by cases h1), fun key t xs h1 => (by cases h1), fun b k p k' p' h1 => ?_, fun b hb => ⟨hS b hb, fun k p ho => ?_⟩⟩, fun s => ?_, Frm.refl _ _ _ _, fun b k p ho => ?_, fun _ _ => rfl, fun b hb => .inr hb⟩
 ·show (vs ++ Array.replicate (nn - vs.size) undef).size = nn
  simp; omega
 ·obtain ⟨x, hx⟩ := h1.some; cases hx
 ·obtain ⟨x, hx⟩ := ho.some; cases hx
 ·show SV _ _ _ _ s (((argsL 0 as).lookup s).getD .dead) _
  rw [argsL_lookup, if_pos (Nat.zero_le _), Nat.sub_zero]
  cases hx : as[s]? with
  | none => trivial
  | some x =>
   obtain ⟨u, h1, h2⟩ := hv s x hx
   have hg : (vs ++ Array.replicate (nn - vs.size) undef).getD s undef = u := by
    have : s < vs.size := (Array.getElem?_eq_some_iff.1 h1).1
    rw [Array.getD_eq_getD_getElem?, Array.getElem?_append_left this, h1]; rfl
   show SV _ _ _ _ s x.av ((vs ++ Array.replicate (nn - vs.size) undef).getD s undef)
   rw [hg]
   cases x with
   | c y => exact h2
   | agg ys => exact h2
   | io t xs => exact h2.elim
   | own ag xs => exact h2.elim
   | fn g css => exact h2
   | rp xs => exact h2
 ·obtain ⟨x, hx⟩ := ho.some; cases hx
def initIO (nn : Nat) (t : TypeId) (xs : List C) (as : List Arg) : Env := mkE nn ((0, .ptr nn 0 [(0, 0)] 0) :: argsL 1 as) [((nn, 0), ⟨some t, xs⟩)]
theorem initIO_con {nn : Nat} {t : TypeId} {xs : List C} {as : List Arg} {key : CKey} {cn : Con} (h : (initIO nn t xs as).con key = some cn) : key = (nn, 0) ∧ cn = ⟨some t, xs⟩ := by
 have h : ([((nn, 0), (⟨some t, xs⟩ : Con))] : List (CKey × Con)).lookup key = some cn := h
 rw [List.lookup_cons] at h
 split at h
 ·rename_i he; cases h; exact ⟨eq_of_beq he, rfl⟩
 ·cases h
theorem start_io {nn : Nat} {t : TypeId} {xs : List C} {as : List Arg} {vs : Array Value} {val0 : Val} {S0 : Nat → Prop} (hn : as.length + 1 ≤ nn) (hl : vs.size = as.length + 1) (hm : MemOk w (ioCon t xs []) val0 S0) (h0 : vs[0]? = some (val0 (1, 0) []))
 (hv : ∀ (i : Nat) (x : Arg), as[i]? = some x → ∃ u, vs[i + 1]? = some u ∧ ArgOkS w S0 x u) :
 St ⟨w, OwnBx val0 t xs, fun s => if s = nn then val0 (1, 0) [] else undef, S0⟩ (initIO nn t xs as) { tmps := vs ++ Array.replicate (nn - vs.size) undef, defers := [] } w := by
 obtain ⟨val, hval⟩ : ∃ val : Val, val = fun key p => if key = (nn, 0) then val0 (1, 0) p else undef := ⟨_, rfl⟩
 have vn : ∀ p, val (nn, 0) p = val0 (1, 0) p := fun p => by rw [hval]; simp
 have io1 : ioCon t xs [] (1, 0) = some ⟨some t, xs⟩ := by unfold ioCon; rw [if_pos rfl]
 have hown : ∀ b key p, OwnB (initIO nn t xs as).con val b key p → key = (nn, 0) ∧ OwnB (ioCon t xs []) val0 b (1, 0) p := fun b key p ho => by
  obtain ⟨cn, hc⟩ := ho.some
  obtain ⟨rfl, rfl⟩ := initIO_con hc
  refine ⟨rfl, ?_⟩
  rcases ho with ⟨k1, ⟨t', zs, k2⟩, k3⟩ | ⟨cn, t', k, rows, n, cap, k1, k2, k3⟩
  ·rw [vn] at k3; exact .inl ⟨k1, ⟨t, xs, io1⟩, k3⟩
  ·rw [hc] at k1; cases k1; rw [vn] at k3; exact .inr ⟨_, t', k, rows, n, cap, io1, k2, k3⟩
 refine ⟨val, S0, ?_, rfl, ⟨fun key cn p c h1 h2 => ?_, fun key t' zs h1 => ?_, fun b k p k' p' h1 h2 => ?_, fun b hb => ⟨(hm.sep b hb).1, fun k p ho => (hm.sep b hb).2 _ _ (hown _ _ _ ho).2⟩⟩, fun s => ?_, Frm.refl _ _ _ _, fun b k p ho => .inr ⟨p, (hown _ _ _ ho).2⟩, fun s hs => ?_, fun b hb => .inr hb⟩
 ·show (vs ++ Array.replicate (nn - vs.size) undef).size = nn
  simp; omega
 ·obtain ⟨rfl, rfl⟩ := initIO_con h1
  exact (hm.node _ _ p c io1 h2).reval (va := val0 (1, 0)) fun z => vn _
 ·obtain ⟨rfl, h2⟩ := initIO_con h1
  cases h2
  obtain ⟨b, cur, g1, g2, g3, g4⟩ := hm.root _ _ _ io1
  exact ⟨b, cur, by rw [vn]; exact g1, g2, g3, fun i hi => by rw [vn]; exact g4 i hi⟩
 ·obtain ⟨rfl, k1⟩ := hown _ _ _ h1
  obtain ⟨rfl, k2⟩ := hown _ _ _ h2
  exact ⟨rfl, (hm.inj _ _ _ _ _ k1 k2).2⟩
 ·show SV _ _ _ _ s ((((0, AV.ptr nn 0 [(0, 0)] 0) :: argsL 1 as).lookup s).getD .dead) _
  rw [List.lookup_cons]
  cases s with
  | zero =>
   show SV _ _ _ _ 0 (.ptr nn 0 [(0, 0)] 0) _
   have hg : (vs ++ Array.replicate (nn - vs.size) undef).getD 0 undef = val0 (1, 0) [] := by
    rw [Array.getD_eq_getD_getElem?, Array.getElem?_append_left (by omega), h0]; rfl
   show _ ∧ _
   rw [hg]
   obtain ⟨b, cur, g1, -⟩ := hm.root _ _ _ io1
   exact ⟨Nat.le_refl _, fun _ => ⟨[], 0, 0, b, 0, rfl, by rw [g1], .inl ⟨rfl, rfl, rfl, by rw [vn]; exact g1⟩⟩⟩
  | succ s =>
   have : (s + 1 == 0) = false := by simp
   rw [this]
   simp only
   rw [argsL_lookup, if_pos (by omega), Nat.add_sub_cancel]
   cases hx : as[s]? with
   | none => trivial
   | some x =>
    obtain ⟨u, h1, h2⟩ := hv s x hx
    have hg : (vs ++ Array.replicate (nn - vs.size) undef).getD (s + 1) undef = u := by
     have : s + 1 < vs.size := (Array.getElem?_eq_some_iff.1 h1).1
     rw [Array.getD_eq_getD_getElem?, Array.getElem?_append_left this, h1]; rfl
    show SV _ _ _ _ (s + 1) x.av ((vs ++ Array.replicate (nn - vs.size) undef).getD (s + 1) undef)
    rw [hg]
    cases x with
    | c y => exact h2
    | agg ys => exact h2
    | io t xs => exact h2.elim
    | own ag xs => exact h2.elim
    | fn g css => exact h2
    | rp xs => exact h2
 ·show val (s, 0) [] = if s = nn then val0 (1, 0) [] else undef
  by_cases hsn : s = nn
  ·rw [if_pos hsn, hsn]; exact vn []
  ·rw [if_neg hsn, hval]; simp [hsn]
theorem args_slot {i nn : Nat} {as : List Arg} {vs : Array Value} {S0 : Nat → Prop} (hv : ∀ (j : Nat) (x : Arg), as[j]? = some x → ∃ u, vs[j + i]? = some u ∧ ArgOkS w S0 x u) (s : Nat) (his : i ≤ s) : SV e w val S0 s (((argsL i as).lookup s).getD .dead) ((vs ++ Array.replicate (nn - vs.size) undef).getD s undef) := by
 rw [argsL_lookup, if_pos his]
 cases hx : as[s - i]? with
 | none => trivial
 | some x =>
  obtain ⟨u, h1, h2⟩ := hv _ x hx
  rw [Nat.sub_add_cancel his] at h1
  have hg : (vs ++ Array.replicate (nn - vs.size) undef).getD s undef = u := by
   have : s < vs.size := (Array.getElem?_eq_some_iff.1 h1).1
   rw [Array.getD_eq_getD_getElem?, Array.getElem?_append_left this, h1]; rfl
  rw [hg]
  cases x with
  | c y => exact h2
  | agg ys => exact h2
  | io t xs => exact h2.elim
  | own ag xs => exact h2.elim
  | fn g css => exact h2
  | rp xs => exact h2
theorem gcon2 {io : Option (TypeId × List C)} {cs : List C} : gCon io cs (2, 0) = some ⟨none, cs⟩ := by unfold gCon; rw [if_neg (by simp), if_pos rfl]
theorem gcon1 {t : TypeId} {xs cs : List C} : gCon (some (t, xs)) cs (1, 0) = some ⟨some t, xs⟩ := by unfold gCon; rw [if_pos rfl]; rfl
theorem MemOk.weak {w : World} {con : CKey → Option Con} {val : Val} {S S' : Nat → Prop} (h : MemOk w con val S) (hS : ∀ b, S b → S' b) (hn : ∀ b, S' b → b < w.heap.size ∧ ∀ key p, ¬ OwnB con val b key p) : MemOk w con val S' :=
 ⟨fun key cn p c h1 h2 => (h.node key cn p c h1 h2).keep (fun b hb _ => hS b hb) (fun _ _ _ => rfl) (fun _ _ _ _ _ _ _ _ _ _ => rfl), h.root, h.inj, hn⟩
theorem OwnB.rekey {con con' : CKey → Option Con} {val val' : Val} {b : Nat} {key key' : CKey} {p : Path} (h : OwnB con val b key p) (hc : con' key' = con key) (hv : val' key' = val key) : OwnB con' val' b key' p := by
 rcases h with ⟨h1, h2, h3⟩ | ⟨cn, t, k, rows, n, cap, h1, h2, h3⟩
 ·exact .inl ⟨h1, by rw [hc]; exact h2, by rw [hv]; exact h3⟩
 ·exact .inr ⟨cn, t, k, rows, n, cap, by rw [hc]; exact h1, h2, by rw [hv]; exact h3⟩
def initGI (nn : Nat) (t : TypeId) (xs : List C) (ag : Bool) (cs : List C) (as : List Arg) : Env := mkE nn ((0, .ptr nn 0 [(0, 0)] 0) :: (1, .own ag cs.length) :: argsL 2 as) [((1, 0), ⟨none, cs⟩), ((nn, 0), ⟨some t, xs⟩)]
theorem initGI_con {nn : Nat} {t : TypeId} {xs : List C} {ag : Bool} {cs : List C} {as : List Arg} {key : CKey} {cn : Con} (h : (initGI nn t xs ag cs as).con key = some cn) : (key = (1, 0) ∧ cn = ⟨none, cs⟩) ∨ (key = (nn, 0) ∧ cn = ⟨some t, xs⟩) := by
 have h : ([((1, 0), (⟨none, cs⟩ : Con)), ((nn, 0), ⟨some t, xs⟩)] : List (CKey × Con)).lookup key = some cn := h
 rw [List.lookup_cons] at h
 split at h
 ·rename_i he; cases h; exact .inl ⟨eq_of_beq he, rfl⟩
 ·rw [List.lookup_cons] at h
  split at h
  ·rename_i he; cases h; exact .inr ⟨eq_of_beq he, rfl⟩
  ·cases h
theorem initGI_con1 (nn : Nat) (t : TypeId) (xs : List C) (ag : Bool) (cs : List C) (as : List Arg) : (initGI nn t xs ag cs as).con (1, 0) = some ⟨none, cs⟩ := rfl
theorem start_gi {nn : Nat} {t : TypeId} {xs : List C} {ag : Bool} {cs : List C} {as : List Arg} {vs : Array Value} {val0 : Val} {S0 : Nat → Prop} (hn : as.length + 2 ≤ nn) (hl : vs.size = as.length + 2) (hm : MemOk w (gCon (some (t, xs)) cs) val0 S0) (hp : vs[0]? = some (val0 (1, 0) [])) (h0 : ∃ u, vs[1]? = some u ∧ TVok w S0 (some ⟨none, cs⟩) (val0 (2, 0)) (.own ag cs.length) u)
 (hv : ∀ (i : Nat) (x : Arg), as[i]? = some x → ∃ u, vs[i + 2]? = some u ∧ ArgOkS w S0 x u) :
 St ⟨w, GOwn (some (t, xs)) cs val0, fun s => if s = nn then val0 (1, 0) [] else undef, S0⟩ (initGI nn t xs ag cs as) { tmps := vs ++ Array.replicate (nn - vs.size) undef, defers := [] } w := by
 obtain ⟨val, hval⟩ : ∃ val : Val, val = fun key => if key = (1, 0) then val0 (2, 0) else if key = (nn, 0) then val0 (1, 0) else fun _ => undef := ⟨_, rfl⟩
 have h1n : ((nn, 0) : CKey) ≠ (1, 0) := by simp; omega
 have v1 : val (1, 0) = val0 (2, 0) := by rw [hval]; simp
 have vn : val (nn, 0) = val0 (1, 0) := by rw [hval]; simp only [if_neg h1n, if_pos]
 have hown : ∀ b key p, OwnB (initGI nn t xs ag cs as).con val b key p → (key = (1, 0) ∧ OwnB (gCon (some (t, xs)) cs) val0 b (2, 0) p) ∨ (key = (nn, 0) ∧ OwnB (gCon (some (t, xs)) cs) val0 b (1, 0) p) := fun b key p ho => by
  obtain ⟨cn, hc⟩ := ho.some
  rcases initGI_con hc with ⟨rfl, rfl⟩ | ⟨rfl, rfl⟩
  ·exact .inl ⟨rfl, ho.rekey (gcon2.trans hc.symm) v1.symm⟩
  ·exact .inr ⟨rfl, ho.rekey (gcon1.trans hc.symm) vn.symm⟩
 refine ⟨val, S0, ?_, rfl, ⟨fun key cn p c k1 k2 => ?_, fun key t' zs k1 => ?_, fun b k p k' p' k1 k2 => ?_, fun b hb => ⟨(hm.sep b hb).1, fun k p ho => ?_⟩⟩, fun s => ?_, Frm.refl _ _ _ _, fun b k p ho => ?_, fun s hs => ?_, fun b hb => .inr hb⟩
 ·show (vs ++ Array.replicate (nn - vs.size) undef).size = nn
  simp; omega
 ·rcases initGI_con k1 with ⟨rfl, rfl⟩ | ⟨rfl, rfl⟩
  ·rw [v1]; exact hm.node _ _ p c gcon2 k2
  ·rw [vn]; exact hm.node _ _ p c gcon1 k2
 ·rcases initGI_con k1 with ⟨rfl, k2⟩ | ⟨rfl, k2⟩
  ·cases k2
  ·cases k2; rw [vn]; exact hm.root _ _ _ gcon1
 ·rcases hown _ _ _ k1 with ⟨rfl, g1⟩ | ⟨rfl, g1⟩ <;> rcases hown _ _ _ k2 with ⟨rfl, g2⟩ | ⟨rfl, g2⟩
  ·exact ⟨rfl, (hm.inj _ _ _ _ _ g1 g2).2⟩
  ·exact absurd (hm.inj _ _ _ _ _ g1 g2).1 (by simp)
  ·exact absurd (hm.inj _ _ _ _ _ g1 g2).1 (by simp)
  ·exact ⟨rfl, (hm.inj _ _ _ _ _ g1 g2).2⟩
 ·rcases hown _ _ _ ho with ⟨-, g1⟩ | ⟨-, g1⟩ <;> exact (hm.sep b hb).2 _ _ g1
 ·show SV _ _ _ _ s ((((0, AV.ptr nn 0 [(0, 0)] 0) :: (1, AV.own ag cs.length) :: argsL 2 as).lookup s).getD .dead) _
  rw [List.lookup_cons]
  match s with
  | 0 =>
   show SV _ _ _ _ 0 (.ptr nn 0 [(0, 0)] 0) _
   have hg : (vs ++ Array.replicate (nn - vs.size) undef).getD 0 undef = val0 (1, 0) [] := by
    rw [Array.getD_eq_getD_getElem?, Array.getElem?_append_left (by omega), hp]; rfl
   show _ ∧ _
   rw [hg]
   obtain ⟨b, cur, g1, -⟩ := hm.root _ _ _ gcon1
   exact ⟨Nat.le_refl _, fun _ => ⟨[], 0, 0, b, 0, rfl, by rw [g1], .inl ⟨rfl, rfl, rfl, by rw [vn]; exact g1⟩⟩⟩
  | 1 =>
   obtain ⟨u, g1, g2⟩ := h0
   have hg : (vs ++ Array.replicate (nn - vs.size) undef).getD 1 undef = u := by
    rw [Array.getD_eq_getD_getElem?, Array.getElem?_append_left (by omega), g1]; rfl
   show SV _ _ _ _ 1 (.own ag cs.length) _
   rw [hg]
   show TVok _ _ ((initGI nn t xs ag cs as).con (1, 0)) (val (1, 0)) _ _
   rw [v1, initGI_con1]; exact g2
  | s + 2 =>
   have e1 : (s + 2 == 0) = false := by simp
   have e2 : (s + 2 == 1) = false := by simp
   rw [e1]
   dsimp only
   rw [List.lookup_cons, e2]
   exact args_slot hv (s + 2) (by omega)
 ·rcases hown _ _ _ ho with ⟨-, g1⟩ | ⟨-, g1⟩ <;> exact .inr ⟨_, _, g1⟩
 ·have hs : nn ≤ s := hs
  show val (s, 0) [] = if s = nn then val0 (1, 0) [] else undef
  by_cases hsn : s = nn
  ·rw [if_pos hsn, hsn, vn]
  ·rw [if_neg hsn, hval]
   simp only [Prod.mk.injEq]
   rw [if_neg (by omega), if_neg (by omega)]
def resSem (tmps : Array Value) : ResultVar → Sem Value
 | .tmp t => pure (tmps.getD t undef)
 | .cell x t => do loadVar t (← asAddr (tmps.getD x undef))
def ROneS (w : World) (S' : Nat → Prop) (con : CKey → Option Con) (val : Val) (s : Nat) (r : RV) (u : Value) (va : Path → Value) : Prop :=
 TVok w S' r.con va r.tv u ∧ (∀ xs p c, r.con = some ⟨none, xs⟩ → look xs p = some c → NodeOk w S' va p c) ∧ ∀ b p xs t k rows n cap o, r.con = some ⟨none, xs⟩ → look xs p = some (.sl true t k rows) → va p = .slice (some ⟨b, o, none⟩) n cap → OwnB con val b (s, 0) p
abbrev ROne (w : World) (con : CKey → Option Con) (val : Val) (s : Nat) (r : RV) (u : Value) (va : Path → Value) : Prop := ROneS w (fun _ => False) con val s r u va
theorem owned_look {xs : List C} (h : ∀ x ∈ xs, x.owned) {p : Path} {c : C} (hl : look xs p = some c) : ∀ t k rows, c ≠ .sl false t k rows := by
 cases p with
 | nil => cases hl
 | cons s p =>
  obtain ⟨j, i⟩ := s
  cases j with
  | succ j => cases hl
  | zero =>
   simp only [look] at hl
   cases hx : xs[i]? with
   | none => rw [hx] at hl; cases hl
   | some x => rw [hx] at hl; exact h x (List.mem_of_getElem? hx) p c hl
theorem owned_node {va : Path → Value} {p : Path} {c : C} (h : NodeOk w S va p c) (ho : ∀ t k rows, c ≠ .sl false t k rows) : NodeOk w (fun _ => False) va p c := by
 cases c with
 | p v => exact h
 | hole => trivial
 | sl own t k rows =>
  cases own with
  | true => exact h
  | false => exact absurd rfl (ho t k rows)
theorem own_one (h : StV w0 e a w val S) {s : Nat} {bx : Option TypeId} {xs : List C} (hc : e.con (s, 0) = some ⟨bx, xs⟩) (ho : ∀ x ∈ xs, x.owned) :
 (∀ p c, look xs p = some c → NodeOk w (fun _ => False) (val (s, 0)) p c) ∧ ∀ b p t k rows n cap o, look xs p = some (.sl true t k rows) → val (s, 0) p = .slice (some ⟨b, o, none⟩) n cap → OwnB e.con val b (s, 0) p :=
 ⟨fun p c hl => owned_node (h.mem.node _ _ _ _ hc hl) (owned_look ho hl), fun _ _ t k rows n cap o hl hv => .inr ⟨_, t, k, rows, n, cap, hc, hl, o, hv⟩⟩
theorem RE_run (h : StV w0 e a w val S) {v : ResultVar} {r : RV} (hr : RE P e v r) : ∃ u va, (resSem a.tmps v).run P w = .ok u w ∧ ROne w e.con val (resSlot v) r u va := by
 cases hr with
 | plain s v hs =>
  have hsv := h.slot s
  rw [hs] at hsv
  refine ⟨_, fun _ => undef, rfl, ?_, fun xs p c hx => (by cases hx), fun b p xs t k rows n cap o hx => (by cases hx)⟩
  have : a.tmps.getD s undef = v := ro_p hsv
  show RO _ _ _ _
  rw [this]; exact .p v
 | aggp s vs hs =>
  have hsv := h.slot s
  rw [hs] at hsv
  obtain ⟨us, h1, h2, h3⟩ := hsv
  refine ⟨_, fun _ => undef, rfl, ⟨us, h1, h2, fun i x hx => ?_⟩, fun xs p c hx => (by cases hx), fun b p xs t k rows n cap o hx => (by cases hx)⟩
  obtain ⟨u, h4, h5⟩ := h3 i x hx
  refine ⟨u, h4, ?_⟩
  simp only [List.getElem?_map, Option.map_eq_some_iff] at hx
  obtain ⟨y, -, rfl⟩ := hx
  rw [ro_p h5]; exact .p y
 | own s ag n xs hs hc ho =>
  have hsv := h.slot s
  rw [hs] at hsv
  obtain ⟨g1, g2⟩ := own_one h hc ho
  refine ⟨_, val (s, 0), rfl, ?_, fun xs' p c hx hl => ?_, fun b p xs' t k rows n cap o hx hl hv => ?_⟩
  ·have hsv : TVok w S (e.con (s, 0)) (val (s, 0)) (.own ag n) (a.tmps.getD s undef) := hsv
   rw [hc] at hsv
   show TVok w _ (some ⟨none, xs⟩) (val (s, 0)) (.own ag xs.length) _
   cases ag with
   | false =>
    obtain ⟨⟨x, h1⟩, h2, h3⟩ := hsv
    cases h1
    exact ⟨⟨x, rfl⟩, rfl, h3⟩
   | true =>
    obtain ⟨xs2, vs, h1, h2, h3, h4, h5⟩ := hsv
    cases h1
    subst h2
    exact ⟨xs, vs, rfl, rfl, h3, h4, h5⟩
  ·cases hx; exact g1 p c hl
  ·cases hx; exact g2 b p t k rows n cap o hl hv
 | nilo s t k hs hk =>
  have hsv := h.slot s
  rw [hs] at hsv
  have : a.tmps.getD s undef = .slice none 0 0 := ro_p hsv
  refine ⟨_, fun _ => .slice none 0 0, rfl, ⟨⟨_, rfl⟩, rfl, this⟩, fun xs' p c hx hl => ?_, fun b p xs' t k rows n cap o hx hl hv => (by cases hv)⟩
  cases hx
  have hp : p = [(0, 0)] ∧ c = .sl true t k [] := by
   cases p with
   | nil => cases hl
   | cons s p =>
    obtain ⟨j, i⟩ := s
    cases j with
    | succ j => cases hl
    | zero =>
     cases i with
     | succ i => simp [look] at hl
     | zero =>
      simp only [look, List.getElem?_cons_zero, Option.bind_some] at hl
      cases p with
      | nil => rw [at_nil] at hl; cases hl; exact ⟨rfl, rfl⟩
      | cons s p =>
       obtain ⟨t', k', rows', c', he, h3, h4⟩ := at_cons_some hl
       cases he
       have := rowC_lt h3
       simp at this
  obtain ⟨rfl, rfl⟩ := hp
  exact ⟨hk, by simp, .inl ⟨rfl, rfl⟩⟩
 | cell s t t' ti xs hs hc hti hag hsz ho =>
  have hsv := h.slot s
  rw [hs] at hsv
  obtain ⟨g1, g2⟩ := own_one h hc ho
  obtain ⟨i, u, z, hi, hu, hz, hsz2, hby, hzz, hzs, hz1, hag2, hel, hfi, hone, hpos⟩ := tabOf_spec hti
  obtain ⟨b, cur, k1, k2, k3, k4⟩ := h.mem.root _ _ _ hc
  have hr : (resSem a.tmps (.cell s t)).run P w = .ok (.agg cur) w := by
   have he : a.tmps.getD s undef = .pointer (some ⟨b, 0, none⟩) := hsv.2.trans k1
   show ((do loadVar t (← asAddr (a.tmps.getD s undef)) : Sem Value)).run P w = _
   rw [he]
   simp only [asAddr, Sem.run_bind, Sem.run_pure, Result.andThen_ok]
   have := run_loadAgg (P := P) (w := w) (b := b) (off := 0) (vs := cur) hu (by rw [hag2, hag]) hi (by omega) fun j v hj => by
    rw [Nat.zero_add, cell_of_row w b j cur t' (0, 0) k2]; exact hj
   unfold Instr.loadAt Instr.sureAddr at this
   simpa using this
  refine ⟨_, val (s, 0), hr, ⟨xs, cur, rfl, rfl, rfl, k3, fun j hj => k4 j hj⟩, fun xs' p c hx hl => ?_, fun b p xs' t k rows n cap o hx hl hv => ?_⟩
  ·cases hx; exact g1 p c hl
  ·cases hx; exact g2 b p t k rows n cap o hl hv
 | cellp s t t' ti v hs hc hti hag =>
  have hsv := h.slot s
  rw [hs] at hsv
  obtain ⟨i, u, z, hi, hu, hz, hsz2, hby, hzz, hzs, hz1, hag2, hel, hfi, hone, hpos⟩ := tabOf_spec hti
  obtain ⟨b, cur, k1, k2, k3, k4⟩ := h.mem.root _ _ _ hc
  have hv : val (s, 0) [(0, 0)] = v := h.mem.node _ _ [(0, 0)] (.p v) hc (by rw [look_one]; rfl)
  have hr : (resSem a.tmps (.cell s t)).run P w = .ok v w := by
   have he : a.tmps.getD s undef = .pointer (some ⟨b, 0, none⟩) := hsv.2.trans k1
   show ((do loadVar t (← asAddr (a.tmps.getD s undef)) : Sem Value)).run P w = _
   rw [he]
   simp only [asAddr, Sem.run_bind, Sem.run_pure, Result.andThen_ok]
   have := run_loadOne (P := P) (w := w) (b := b) (off := 0) (v := v) hu (by rw [hag2, hag]) (by
    rw [cell_of_row w b 0 cur t' (0, 0) k2, k4 0 (by simp), hv])
   unfold Instr.loadAt Instr.sureAddr at this
   simpa using this
  exact ⟨v, fun _ => undef, hr, .p v, fun xs p c hx => (by cases hx), fun b p xs t k rows n cap o hx => (by cases hx)⟩
theorem mapM_run : ∀ (vs : List ResultVar) (us : List Value) (w : World), us.length = vs.length → (∀ (i : Nat) (v : ResultVar), vs[i]? = some v → ∃ u, us[i]? = some u ∧ (resSem a.tmps v).run P w = .ok u w) → (vs.mapM (resSem a.tmps)).run P w = .ok us w
 | [], us, w, h, _ => by
  have : us = [] := List.eq_nil_of_length_eq_zero h
  subst this; rfl
 | v :: vs, us, w, h, hr => by
  obtain ⟨u, h1, h2⟩ := hr 0 v rfl
  cases us with
  | nil => cases h1
  | cons u' us =>
   simp at h1
   subst h1
   rw [List.mapM_cons, Sem.run_bind, h2]
   simp only [Result.andThen_ok, Sem.run_bind]
   rw [mapM_run vs us w (by simpa using h) fun i v hv => by
    obtain ⟨u2, h3, h4⟩ := hr (i + 1) v (by simpa using hv)
    exact ⟨u2, by simpa using h3, h4⟩]
   rfl
theorem ret_gen {fn : Func} {r : Res} {S' : Nat → Prop} (h : StV w0 e a w val S) (hS' : ∀ b, S' b → S b) (hlen : fn.results.toList.length = r.length)
 (hone : ∀ (i : Nat) (rv : RV), r[i]? = some rv → ∃ v, fn.results.toList[i]? = some v ∧ ∃ u va, (resSem a.tmps v).run P w = .ok u w ∧ ROneS w S' e.con val (resSlot v) rv u va) (hnd : (fn.results.toList.map resSlot).Nodup) :
 ∃ v val', (results fn a.tmps).run P w = .ok v w ∧ MemOk w (resCon r) val' S' ∧ (∀ b key p, OwnB (resCon r) val' b key p → ∃ v, v ∈ fn.results.toList ∧ OwnB e.con val b (resSlot v, 0) p) ∧ SV { emptyEnv with con := resCon r } w val' S' 0 (resAV r) v := by
 have hex : ∀ i : Nat, ∃ x : Value × (Path → Value), ∀ (rv : RV) (v : ResultVar), r[i]? = some rv → fn.results.toList[i]? = some v → (resSem a.tmps v).run P w = .ok x.1 w ∧ ROneS w S' e.con val (resSlot v) rv x.1 x.2 := fun i => by
  cases hri : r[i]? with
  | none => exact ⟨(undef, fun _ => undef), fun rv v hx => by cases hx⟩
  | some rv =>
   obtain ⟨v, hv, u, va, h1, h2⟩ := hone i rv hri
   refine ⟨(u, va), fun rv' v' hx hv' => ?_⟩
   cases hx
   rw [hv] at hv'
   cases hv'
   exact ⟨h1, h2⟩
 obtain ⟨f, hf⟩ := Classical.axiomOfChoice hex
 obtain ⟨us, hus⟩ : ∃ us : List Value, us = (List.range r.length).map fun i => (f i).1 := ⟨_, rfl⟩
 have husl : us.length = r.length := by rw [hus]; simp
 have husi : ∀ i, i < r.length → us[i]? = some (f i).1 := fun i hi => by rw [hus]; simp [hi]
 have hrun : (results fn a.tmps).run P w = .ok (if us.length = 1 then us.headD undef else .tuple us.toArray) w := by
  have hm := mapM_run (P := P) (a := a) fn.results.toList us w (by omega) fun i v hv => by
   have hi : i < r.length := by have := (List.getElem?_eq_some_iff.1 hv).1; omega
   exact ⟨_, husi i hi, (hf i r[i] v (List.getElem?_eq_getElem hi) hv).1⟩
  have hm' : (fn.results.mapM (resSem a.tmps)).run P w = .ok us.toArray w := by
   rw [Array.mapM_eq_mapM_toList, Sem.run_map, hm]; rfl
  show ((do let vs ← fn.results.mapM (resSem a.tmps); pure (if h : vs.size = 1 then vs[0] else .tuple vs) : Sem Value)).run P w = _
  rw [Sem.run_bind, hm']
  simp only [Result.andThen_ok, Sem.run_pure]
  by_cases h1 : us.length = 1
  ·obtain ⟨u, rfl⟩ := List.length_eq_one_iff.1 h1
   simp
  ·simp [h1]
 have hcon : ∀ key cn, resCon r key = some cn → ∃ i rv xs, r[i]? = some rv ∧ rv.con = some ⟨none, xs⟩ ∧ cn = ⟨none, xs⟩ ∧ ((r.length = 1 ∧ key = (0, 0) ∧ i = 0) ∨ (r.length ≠ 1 ∧ key = (0, i + 1))) := fun key cn hk => by
  have hx : ∀ rv : RV, rv.con = some cn → ∃ xs, rv.con = some ⟨none, xs⟩ ∧ cn = ⟨none, xs⟩ := fun rv hh => by
   cases rv with
   | c x => cases hh
   | agg x => cases hh
   | own ag xs => cases hh; exact ⟨xs, rfl, rfl⟩
  obtain ⟨k1, k2⟩ := key
  unfold resCon at hk
  split at hk
  ·rename_i h0
   simp only at h0
   subst h0
   split at hk
   ·rename_i x
    split at hk
    ·rename_i h2
     simp only at h2
     subst h2
     obtain ⟨xs, g1, g2⟩ := hx x hk
     exact ⟨0, x, xs, rfl, g1, g2, .inl ⟨rfl, rfl, rfl⟩⟩
    ·cases hk
   ·rename_i hne
    cases k2 with
    | zero => cases hk
    | succ i =>
     simp only at hk
     cases hri : r[i]? with
     | none => rw [hri] at hk; cases hk
     | some rv =>
      rw [hri] at hk
      obtain ⟨xs, g1, g2⟩ := hx rv hk
      exact ⟨i, rv, xs, hri, g1, g2, .inr ⟨fun hl => by obtain ⟨y, hy⟩ := List.length_eq_one_iff.1 hl; exact hne y hy, rfl⟩⟩
  ·cases hk
 obtain ⟨val', hval⟩ : ∃ val' : Val, val' = fun key => if r.length = 1 then (f 0).2 else (f (key.2 - 1)).2 := ⟨_, rfl⟩
 have hvi : ∀ key i, ((r.length = 1 ∧ key = ((0, 0) : CKey) ∧ i = 0) ∨ (r.length ≠ 1 ∧ key = (0, i + 1))) → val' key = (f i).2 := fun key i hh => by
  rw [hval]
  rcases hh with ⟨h1, rfl, rfl⟩ | ⟨h1, rfl⟩
  ·simp only [if_pos h1]
  ·simp only [if_neg h1, Nat.add_sub_cancel]
 have hslot : ∀ (i : Nat) (rv : RV), r[i]? = some rv → ∃ v, fn.results.toList[i]? = some v ∧ ROneS w S' e.con val (resSlot v) rv (f i).1 (f i).2 := fun i rv hi => by
  obtain ⟨v, hv, -⟩ := hone i rv hi
  exact ⟨v, hv, (hf i rv v hi hv).2⟩
 have hown : ∀ b key p, OwnB (resCon r) val' b key p → ∃ i v, fn.results.toList[i]? = some v ∧ OwnB e.con val b (resSlot v, 0) p ∧ ((r.length = 1 ∧ key = ((0, 0) : CKey) ∧ i = 0) ∨ (r.length ≠ 1 ∧ key = (0, i + 1))) := fun b key p ho => by
  obtain ⟨cn, hcn⟩ := ho.some
  obtain ⟨i, rv, xs, g1, g2, rfl, g3⟩ := hcon key cn hcn
  obtain ⟨v, hv, h1, h2, h3⟩ := hslot i rv g1
  refine ⟨i, v, hv, ?_, g3⟩
  rcases ho with ⟨-, ⟨t, xs', k1⟩, -⟩ | ⟨cn2, t, k, rows, n, cap, k1, k2, o, k3⟩
  ·rw [hcn] at k1; cases k1
  ·rw [hcn] at k1
   cases k1
   rw [hvi key i g3] at k3
   exact h3 b p xs t k rows n cap o g2 k2 k3
 refine ⟨_, val', hrun, ⟨fun key cn p c h1 h2 => ?_, fun key t xs h1 => ?_, fun b key p key' p' h1 h2 => ?_, fun b hb => ⟨(h.mem.sep b (hS' b hb)).1, fun key p ho => ?_⟩⟩, fun b key p ho => ?_, ?_⟩
 ·obtain ⟨i, rv, xs, g1, g2, rfl, g3⟩ := hcon key cn h1
  obtain ⟨v, hv, k1, k2, k3⟩ := hslot i rv g1
  rw [hvi key i g3]
  exact k2 xs p c g2 h2
 ·obtain ⟨i, rv, xs', g1, g2, g4, g3⟩ := hcon key _ h1
  cases g4
 ·obtain ⟨i, v, k1, k2, k3⟩ := hown b key p h1
  obtain ⟨i', v', k4, k5, k6⟩ := hown b key' p' h2
  obtain ⟨g1, g2⟩ := h.mem.inj b _ _ _ _ k2 k5
  refine ⟨?_, g2⟩
  have hss : resSlot v = resSlot v' := by simpa using g1
  have hii : i = i' := by
   have a1 : (fn.results.toList.map resSlot)[i]? = some (resSlot v) := by simp [k1]
   have a2 : (fn.results.toList.map resSlot)[i']? = some (resSlot v) := by simp [k4, hss]
   have l1 := (List.getElem?_eq_some_iff.1 a1).1
   have l2 := (List.getElem?_eq_some_iff.1 a2).1
   rw [List.getElem?_eq_getElem l1] at a1
   rw [List.getElem?_eq_getElem l2] at a2
   have he := Option.some.inj (a1.trans a2.symm)
   have hpw := List.pairwise_iff_getElem.1 hnd
   rcases Nat.lt_trichotomy i i' with h3 | h3 | h3
   ·exact absurd he (hpw i i' l1 l2 h3)
   ·exact h3
   ·exact absurd he.symm (hpw i' i l2 l1 h3)
  subst hii
  rcases k3 with ⟨n1, rfl, -⟩ | ⟨n1, rfl⟩ <;> rcases k6 with ⟨n2, rfl, -⟩ | ⟨n2, rfl⟩
  ·rfl
  ·exact absurd n1 n2
  ·exact absurd n2 n1
  ·rfl
 ·obtain ⟨i, v, k1, k2, -⟩ := hown b key p ho
  exact (h.mem.sep b (hS' b hb)).2 _ _ k2
 ·obtain ⟨i, v, k1, k2, -⟩ := hown b key p ho
  exact ⟨v, List.mem_of_getElem? k1, k2⟩
 ·by_cases h1 : r.length = 1
  ·obtain ⟨x, rfl⟩ := List.length_eq_one_iff.1 h1
   obtain ⟨v, hv, k1, -⟩ := hslot 0 x rfl
   have hu : (if us.length = 1 then us.headD undef else .tuple us.toArray) = (f 0).1 := by
    rw [if_pos (by omega)]
    have := husi 0 (by simp)
    cases us with
    | nil => cases this
    | cons u us => simp at this; simp [this]
   rw [hu]
   have hk := hvi (0, 0) 0 (.inl ⟨rfl, rfl, rfl⟩)
   have key : TVok w S' (resCon [x] (0, 0)) (val' (0, 0)) x.tv (f 0).1 := by rw [hk]; exact k1
   show SV _ _ _ _ 0 x.tv.av _
   cases hx : x.tv with
   | c y => rw [hx] at key; exact key
   | agg ys => rw [hx] at key; exact key
   | own ag n => rw [hx] at key; exact key
  ·have hav : resAV r = .tup (r.map RV.tv) := by
    unfold resAV
    split
    ·rename_i x; exact absurd rfl h1
    ·rfl
   rw [hav, if_neg (by omega)]
   refine ⟨us.toArray, rfl, by simp [husl], fun i t hi => ?_⟩
   simp only [List.getElem?_map, Option.map_eq_some_iff] at hi
   obtain ⟨rv, g1, rfl⟩ := hi
   have hil : i < r.length := (List.getElem?_eq_some_iff.1 g1).1
   obtain ⟨v, hv, k1, -⟩ := hslot i rv g1
   refine ⟨(f i).1, by simpa using husi i hil, .inr ?_⟩
   have hk := hvi (0, i + 1) i (.inr ⟨h1, rfl⟩)
   have hrc : resCon r (0, i + 1) = rv.con := by
    unfold resCon
    rw [if_pos rfl]
    split
    ·rename_i x; exact absurd rfl h1
    ·simp [g1]
   show TVok w _ (resCon r (0, i + 1)) (val' (0, i + 1)) rv.tv _
   rw [hk, hrc]; exact k1
theorem ret_ok {w1 : World} {S0 : Nat → Prop} {fn : Func} {r : Res} (h : StV (Base.of w1 S0) e a w val S) (hr : REs P e fn.results.toList r) (hnd : (fn.results.toList.map resSlot).Nodup) : ∃ v val' S', (results fn a.tmps).run P w = .ok v w ∧ RetOk w1 w r v val' S' := by
 obtain ⟨v, val', h1, h2, h3, h4⟩ := ret_gen (S' := fun _ => False) h (fun _ hh => hh.elim) hr.length (fun i rv hi => by
  obtain ⟨v, hv, hre⟩ := hr.at_ i rv hi
  obtain ⟨u, va, g1, g2⟩ := RE_run h hre
  exact ⟨v, hv, u, va, g1, g2⟩) hnd
 exact ⟨v, val', fun _ => False, h1, h.frm.to_below, h2, fun b key p ho => by
  obtain ⟨v, -, g⟩ := h3 b key p ho
  exact Base.of_mine (h.low _ _ _ g), fun _ hh => hh.elim, h4⟩
inductive RA (P : Program) (e : Env) : ResultVar → RV → Prop
 | re (v : ResultVar) (r : RV) : RE P e v r → RA P e v r
 | c (s : Nat) (x : C) : e.s s = .c x → RA P e (.tmp s) (.c x)
 | agg (s : Nat) (xs : List C) : e.s s = .agg xs → RA P e (.tmp s) (.agg xs)
 | cell (s : Nat) (t t' : TypeId) (ti : TI) (xs : List C) : e.s s = .box → e.con (s, 0) = some ⟨some t', xs⟩ → tabOf P t = some ti → ti.agg = true → ti.size = xs.length → xs.all C.freeB = true → RA P e (.cell s t) (.agg xs)
 | cell1 (s : Nat) (t t' : TypeId) (ti : TI) (x : C) : e.s s = .box → e.con (s, 0) = some ⟨some t', [x]⟩ → tabOf P t = some ti → ti.agg = false → x.freeB = true → RA P e (.cell s t) (.c x)
 | owna (s : Nat) (n : Nat) (xs : List C) : e.s s = .own true n → e.con (s, 0) = some ⟨none, xs⟩ → xs.all C.freeB = true → RA P e (.tmp s) (.agg xs)
 | own1 (s : Nat) (x : C) : e.s s = .own false 1 → e.con (s, 0) = some ⟨none, [x]⟩ → x.freeB = true → RA P e (.tmp s) (.c x)
inductive RAs (P : Program) (e : Env) : List ResultVar → List RV → Prop
 | nil : RAs P e [] []
 | cons (v : ResultVar) (vs : List ResultVar) (r : RV) (rs : List RV) : RA P e v r → RAs P e vs rs → RAs P e (v :: vs) (r :: rs)
theorem RAs.length {vs : List ResultVar} {rs : List RV} (h : RAs P e vs rs) : vs.length = rs.length := by
 induction h with
 | nil => rfl
 | cons v vs r rs h1 h2 ih => simp [ih]
theorem RAs.at_ {vs : List ResultVar} {rs : List RV} (h : RAs P e vs rs) : ∀ (i : Nat) (r : RV), rs[i]? = some r → ∃ v, vs[i]? = some v ∧ RA P e v r := by
 induction h with
 | nil => intro i r h; simp at h
 | cons v vs r rs h1 h2 ih =>
  intro i r' hi
  cases i with
  | zero => simp at hi; subst hi; exact ⟨v, rfl, h1⟩
  | succ i => simp at hi; obtain ⟨v', h3, h4⟩ := ih i r' hi; exact ⟨v', by simpa using h3, h4⟩
theorem ROne.weak {s : Nat} {rv : RV} {u : Value} {va : Path → Value} (h : ROne w e.con val s rv u va) : ROneS w S e.con val s rv u va :=
 ⟨h.1.keep (fun _ hh => hh.elim) fun _ _ _ => rfl, fun xs p c h1 h2 => (h.2.1 xs p c h1 h2).keep (fun _ hh => hh.elim) (fun _ _ _ => rfl) fun _ _ _ _ _ _ _ _ _ _ => rfl, h.2.2⟩
theorem node_free' {va : Path → Value} {p : Path} {c : C} (h : NodeOk w S va p c) (hf : c.freeB = true) : RO w S c (va p) := by
 cases c with
 | p v => have : va p = v := h; rw [this]; exact .p v
 | hole => exact .hole _
 | sl own t k rows => cases own with | true => cases hf | false => exact h
theorem RA_run (h : StV w0 e a w val S) {v : ResultVar} {r : RV} (hr : RA P e v r) : ∃ u va, (resSem a.tmps v).run P w = .ok u w ∧ ROneS w S e.con val (resSlot v) r u va := by
 have none_ : ∀ {r : RV} {s : Nat} {u : Value}, r.con = none → TVok w S r.con (fun _ => undef) r.tv u → ROneS w S e.con val s r u fun _ => undef := fun hn ht => ⟨ht, fun xs p c hx => (by rw [hn] at hx; cases hx), fun b p xs t k rows n cap o hx => (by rw [hn] at hx; cases hx)⟩
 have agg : ∀ {s : Nat} {bx : Option TypeId} {xs : List C} {vs : Array Value}, e.con (s, 0) = some ⟨bx, xs⟩ → xs.all C.freeB = true → vs.size = xs.length → (∀ i, i < xs.length → vs[i]? = some (val (s, 0) [(0, i)])) → ROs w S xs vs := fun hc hf hs hv => ⟨hs, fun i x hi => by
  have hl := (List.getElem?_eq_some_iff.1 hi).1
  exact ⟨_, hv i hl, node_free' (h.mem.node _ _ [(0, i)] x hc (by rw [look_one]; exact hi)) (List.all_eq_true.1 hf x (List.mem_of_getElem? hi))⟩⟩
 cases hr with
 | re v r hre =>
  obtain ⟨u, va, h1, h2⟩ := RE_run h hre
  exact ⟨u, va, h1, h2.weak⟩
 | c s x hs =>
  have hsv := h.slot s
  rw [hs] at hsv
  exact ⟨_, fun _ => undef, rfl, none_ rfl hsv⟩
 | agg s xs hs =>
  have hsv := h.slot s
  rw [hs] at hsv
  exact ⟨_, fun _ => undef, rfl, none_ rfl hsv⟩
 | cell s t t' ti xs hs hc hti hag hsz hf =>
  have hsv := h.slot s
  rw [hs] at hsv
  obtain ⟨i, u, z, hi, hu, hz, hsz2, hby, hzz, hzs, hz1, hag2, hel, hfi, hone, hpos⟩ := tabOf_spec hti
  obtain ⟨b, cur, k1, k2, k3, k4⟩ := h.mem.root _ _ _ hc
  have hr : (resSem a.tmps (.cell s t)).run P w = .ok (.agg cur) w := by
   have he : a.tmps.getD s undef = .pointer (some ⟨b, 0, none⟩) := hsv.2.trans k1
   show ((do loadVar t (← asAddr (a.tmps.getD s undef)) : Sem Value)).run P w = _
   rw [he]
   simp only [asAddr, Sem.run_bind, Sem.run_pure, Result.andThen_ok]
   have := run_loadAgg (P := P) (w := w) (b := b) (off := 0) (vs := cur) hu (by rw [hag2, hag]) hi (by omega) fun j v hj => by
    rw [Nat.zero_add, cell_of_row w b j cur t' (0, 0) k2]; exact hj
   unfold Instr.loadAt Instr.sureAddr at this
   simpa using this
  exact ⟨_, fun _ => undef, hr, none_ rfl ⟨cur, rfl, agg hc hf k3 k4⟩⟩
 | cell1 s t t' ti x hs hc hti hag hf =>
  have hsv := h.slot s
  rw [hs] at hsv
  obtain ⟨i, u, z, hi, hu, hz, hsz2, hby, hzz, hzs, hz1, hag2, hel, hfi, hone, hpos⟩ := tabOf_spec hti
  obtain ⟨b, cur, k1, k2, k3, k4⟩ := h.mem.root _ _ _ hc
  have hro : RO w S x (val (s, 0) [(0, 0)]) := node_free' (h.mem.node _ _ [(0, 0)] x hc (by rw [look_one]; rfl)) hf
  have hr : (resSem a.tmps (.cell s t)).run P w = .ok (val (s, 0) [(0, 0)]) w := by
   have he : a.tmps.getD s undef = .pointer (some ⟨b, 0, none⟩) := hsv.2.trans k1
   show ((do loadVar t (← asAddr (a.tmps.getD s undef)) : Sem Value)).run P w = _
   rw [he]
   simp only [asAddr, Sem.run_bind, Sem.run_pure, Result.andThen_ok]
   have := run_loadOne (P := P) (w := w) (b := b) (off := 0) (v := val (s, 0) [(0, 0)]) hu (by rw [hag2, hag]) (by
    rw [cell_of_row w b 0 cur t' (0, 0) k2, k4 0 (by simp)])
   unfold Instr.loadAt Instr.sureAddr at this
   simpa using this
  exact ⟨_, fun _ => undef, hr, none_ rfl hro⟩
 | owna s n xs hs hc hf =>
  have hsv := h.slot s
  rw [hs] at hsv
  obtain ⟨xs2, vs, h1, h2, h3, h4, h5⟩ := hsv
  rw [hc] at h1
  cases h1
  exact ⟨_, fun _ => undef, rfl, none_ rfl ⟨vs, h3, agg hc hf (by omega) fun i hi => h5 i (by omega)⟩⟩
 | own1 s x hs hc hf =>
  have hsv := h.slot s
  rw [hs] at hsv
  obtain ⟨-, -, h3⟩ := hsv
  refine ⟨_, fun _ => undef, rfl, none_ rfl ?_⟩
  show RO w S x (a.tmps.getD s undef)
  rw [h3]
  exact node_free' (h.mem.node _ _ [(0, 0)] x hc (by rw [look_one]; rfl)) hf
theorem ret_okA {fn : Func} {r : Res} (h : StV w0 e a w val S) (hr : RAs P e fn.results.toList r) (hnd : (fn.results.toList.map resSlot).Nodup) :
 ∃ v val', (results fn a.tmps).run P w = .ok v w ∧ MemOk w (resCon r) val' S ∧ (∀ b key p, OwnB (resCon r) val' b key p → ∃ v, v ∈ fn.results.toList ∧ OwnB e.con val b (resSlot v, 0) p) ∧ SV { emptyEnv with con := resCon r } w val' S 0 (resAV r) v :=
 ret_gen h (fun _ hh => hh) hr.length (fun i rv hi => by
  obtain ⟨v, hv, hre⟩ := hr.at_ i rv hi
  obtain ⟨u, va, g1, g2⟩ := RA_run h hre
  exact ⟨v, hv, u, va, g1, g2⟩) hnd
def FinA (P : Program) (fn : Func) (Post : Res → Prop) : Exit → Env → Prop
 | .normal, e | .ret, e => ∃ r, RAs P e fn.results.toList r ∧ (fn.results.toList.map resSlot).Nodup ∧ Post r
 | _, _ => False
def FinIO (P : Program) (fn : Func) (t : TypeId) (n : Nat) (Post : Res → Prop) : Exit → Env → Prop
 | .normal, e | .ret, e => ∃ r xs, RAs P e fn.results.toList r ∧ (fn.results.toList.map resSlot).Nodup ∧ (fn.results.toList.all fun v => decide (resSlot v < fn.ntmps)) = true ∧ e.n = fn.ntmps ∧ e.con (fn.ntmps, 0) = some ⟨some t, xs⟩ ∧ xs.length = n ∧ Post (.own true xs :: r)
 | _, _ => False
theorem dcalls_of {f : FuncId} {fn : Func} {c : Code} {as : List Arg} {Post : Res → Prop} (hf : P.funcs[f]? = some fn) (hb : fn.body = some c) (hn : as.length ≤ fn.ntmps) (h : ∀ w0, DW P w0 c (Fin P fn Post) (initE fn.ntmps as)) : DCalls P f as Post := by
 intro w vs hl hv
 refine calls_of_wp hf hb (wp_mono (h (Base.of w fun b => b < w.heap.size) _ w (start_st hn hl (fun _ hb => hb) fun i x hx => by
  obtain ⟨u, h1, h2⟩ := hv i x hx
  exact ⟨u, h1, argOk_S h2⟩)) ?_)
 rintro ex a' w' ⟨e', h1, val, S, h2⟩
 have key : (∃ r, REs P e' fn.results.toList r ∧ (fn.results.toList.map resSlot).Nodup ∧ Post r) → a'.defers = [] ∧ ∃ v, (results fn a'.tmps).run P w' = .ok v w' ∧ ∃ r v' val S, Post r ∧ Ending.returned v = .returned v' ∧ RetOk w w' r v' val S := by
  rintro ⟨r, h3, h4, h5⟩
  obtain ⟨v, val', S', h6, h7⟩ := ret_ok h2 h3 h4
  exact ⟨h2.defers, v, h6, r, v, val', S', h5, rfl, h7⟩
 cases ex with
 | normal => exact key h1
 | ret => exact key h1
 | exit id => exact h1.elim
 | goto l => exact h1.elim
 | panic c => exact h1.elim
 | outgrown => exact h1.elim
theorem acalls_of {f : FuncId} {fn : Func} {c : Code} {as : List Arg} {Post : Res → Prop} (hio : (as[0]?).map Arg.isIo ≠ some true) (hf : P.funcs[f]? = some fn) (hb : fn.body = some c) (hn : as.length ≤ fn.ntmps) (h : ∀ w0, DW P w0 c (FinA P fn Post) (initE fn.ntmps as)) : ACalls P f as Post := by
 rw [acalls_plain hio]
 intro w vs S0 hl hS0 hv
 refine calls_of_wp hf hb (wp_mono (h (Base.of w S0) _ w (start_st hn hl hS0 hv)) ?_)
 rintro ex a' w' ⟨e', h1, val, S, h2⟩
 have key : (∃ r, RAs P e' fn.results.toList r ∧ (fn.results.toList.map resSlot).Nodup ∧ Post r) → a'.defers = [] ∧ ∃ v, (results fn a'.tmps).run P w' = .ok v w' ∧ ∃ r v' val S, Post r ∧ Ending.returned v = .returned v' ∧ RetS w w' S0 r v' val S := by
  rintro ⟨r, h3, h4, h5⟩
  obtain ⟨v, val', h6, h7, h8, h9⟩ := ret_okA h2 h3 h4
  refine ⟨h2.defers, v, h6, r, v, val', S, h5, rfl, h2.frm.to_below, h7, fun b key p ho => ?_, fun b hb => ?_, h9⟩
  ·obtain ⟨v, -, g⟩ := h8 b key p ho
   exact Base.of_mine (h2.low _ _ _ g)
  ·exact (h2.sS b hb).imp Base.of_mine id
 cases ex with
 | normal => exact key h1
 | ret => exact key h1
 | exit id => exact h1.elim
 | goto l => exact h1.elim
 | panic c => exact h1.elim
 | outgrown => exact h1.elim
theorem fin_io {w w' : World} {a' : Act} {e' : Env} {G S0 : Nat → Prop} {p0 : Value} {fn : Func} {t : TypeId} {n : Nat} {Post : Res → Prop} (h2 : StV ⟨w, G, fun s => if s = fn.ntmps then p0 else undef, S0⟩ e' a' w' val S)
 (h1 : ∃ r xs', RAs P e' fn.results.toList r ∧ (fn.results.toList.map resSlot).Nodup ∧ (fn.results.toList.all fun v => decide (resSlot v < fn.ntmps)) = true ∧ e'.n = fn.ntmps ∧ e'.con (fn.ntmps, 0) = some ⟨some t, xs'⟩ ∧ xs'.length = n ∧ Post (.own true xs' :: r)) :
 a'.defers = [] ∧ ∃ v, (results fn a'.tmps).run P w' = .ok v w' ∧ ∃ r xs' v' val S, xs'.length = n ∧ Post (.own true xs' :: r) ∧ Ending.returned v = .returned v' ∧ RetIO w w' G S0 t xs' p0 r v' val S := by
 obtain ⟨r, xs', h3, h4, h5, hn', hc, hlen, hP⟩ := h1
 obtain ⟨v, val', h6, h7, h8, h9⟩ := ret_okA h2 h3 h4
 obtain ⟨nv, hnv⟩ : ∃ nv : Val, nv = fun key => if key = (1, 0) then val (fn.ntmps, 0) else val' key := ⟨_, rfl⟩
 have n1 : nv (1, 0) = val (fn.ntmps, 0) := by rw [hnv]; simp
 have n0 : ∀ key : CKey, key ≠ (1, 0) → nv key = val' key := fun key hk => by rw [hnv]; simp only [if_neg hk]
 have c1 : ioCon t xs' r (1, 0) = some ⟨some t, xs'⟩ := by unfold ioCon; rw [if_pos rfl]
 have c0 : ∀ key : CKey, key ≠ (1, 0) → ioCon t xs' r key = resCon r key := fun key hk => by unfold ioCon; rw [if_neg hk]
 have own : ∀ b key p, OwnB (ioCon t xs' r) nv b key p → (key = (1, 0) ∧ OwnB e'.con val b (fn.ntmps, 0) p) ∨ (key ≠ (1, 0) ∧ OwnB (resCon r) val' b key p) := fun b key p ho => by
  by_cases hk : key = (1, 0)
  ·refine .inl ⟨hk, ?_⟩
   rw [hk] at ho
   rcases ho with ⟨k1, ⟨t', zs, k2⟩, k3⟩ | ⟨cn, t', k, rows, n, cap, k1, k2, k3⟩
   ·rw [n1] at k3; exact .inl ⟨k1, ⟨t, xs', hc⟩, k3⟩
   ·rw [c1] at k1; cases k1; rw [n1] at k3; exact .inr ⟨_, t', k, rows, n, cap, hc, k2, k3⟩
  ·exact .inr ⟨hk, ho.con (c0 key hk).symm (n0 key hk).symm⟩
 have apart : ∀ b key p p', OwnB (resCon r) val' b key p → OwnB e'.con val b (fn.ntmps, 0) p' → False := fun b key p p' g1 g2 => by
  obtain ⟨v, hv, g3⟩ := h8 b key p g1
  have := (h2.mem.inj _ _ _ _ _ g3 g2).1
  have hlt := List.all_eq_true.1 h5 v hv
  simp only [Prod.mk.injEq, and_true] at this
  rw [this] at hlt
  simp at hlt
 refine ⟨h2.defers, v, h6, r, xs', v, nv, S, hlen, hP, rfl, ⟨h2.frm.os, h2.frm.tape, h2.frm.output, h2.frm.size, h2.frm.block⟩, ⟨fun key cn p c g1 g2 => ?_, fun key t' zs g1 => ?_, fun b key p key' p' g1 g2 => ?_, fun b hb => ⟨(h2.mem.sep b hb).1, fun key p ho => ?_⟩⟩, ?_, fun b key p ho => ?_, fun b hb => h2.sS b hb, ?_⟩
 ·by_cases hk : key = (1, 0)
  ·subst hk
   rw [c1] at g1
   cases g1
   rw [n1]; exact h2.mem.node _ _ p c hc g2
  ·rw [c0 key hk] at g1
   rw [n0 key hk]; exact h7.node _ _ p c g1 g2
 ·by_cases hk : key = (1, 0)
  ·subst hk
   rw [c1] at g1
   cases g1
   rw [n1]; exact h2.mem.root _ _ _ hc
  ·rw [c0 key hk] at g1
   rw [n0 key hk]; exact h7.root _ _ _ g1
 ·rcases own b key p g1 with ⟨rfl, g3⟩ | ⟨k1, g3⟩ <;> rcases own b key' p' g2 with ⟨rfl, g4⟩ | ⟨k2, g4⟩
  ·exact ⟨rfl, (h2.mem.inj _ _ _ _ _ g3 g4).2⟩
  ·exact (apart _ _ _ _ g4 g3).elim
  ·exact (apart _ _ _ _ g3 g4).elim
  ·exact h7.inj _ _ _ _ _ g3 g4
 ·rcases own b key p ho with ⟨rfl, g3⟩ | ⟨k1, g3⟩
  ·exact (h2.mem.sep b hb).2 _ _ g3
  ·exact (h7.sep b hb).2 _ _ g3
 ·rw [n1, h2.rts fn.ntmps (by omega)]; simp
 ·rcases own b key p ho with ⟨rfl, g3⟩ | ⟨k1, g3⟩
  ·exact h2.low _ _ _ g3
  ·obtain ⟨v, -, g⟩ := h8 b key p g3
   exact h2.low _ _ _ g
 ·have m0 : ∀ i, nv (0, i) = val' (0, i) := fun i => n0 (0, i) (by simp)
  have hsv := h9
  generalize hrr : resAV r = av at hsv ⊢
  have hav : (∃ tv : TV, av = tv.av) ∨ ∃ ts, av = .tup ts := by
   rw [← hrr]
   unfold resAV
   split
   ·exact .inl ⟨_, rfl⟩
   ·exact .inr ⟨_, rfl⟩
  rcases hav with ⟨tv, rfl⟩ | ⟨ts, rfl⟩
  ·cases tv with
   | c y => exact hsv
   | agg ys => exact hsv
   | own ag n =>
    show TVok w' S (resCon r (0, 0)) (nv (0, 0)) (.own ag n) v
    rw [m0]; exact hsv
  ·obtain ⟨vs, g1, g2, g3⟩ := hsv
   refine ⟨vs, g1, g2, fun i tv hi => ?_⟩
   obtain ⟨u, g4, g5⟩ := g3 i tv hi
   exact ⟨u, g4, by rw [m0]; exact g5⟩
theorem iocalls_of {f : FuncId} {fn : Func} {c : Code} {t : TypeId} {xs : List C} {as : List Arg} {Post : Res → Prop} (hf : P.funcs[f]? = some fn) (hb : fn.body = some c) (hn : as.length + 1 ≤ fn.ntmps) (h : ∀ w0, DW P w0 c (FinIO P fn t xs.length Post) (initIO fn.ntmps t xs as)) : ACalls P f (.io t xs :: as) Post := by
 intro w vs val0 S0 hl hm hp0 hv
 refine calls_of_wp hf hb (wp_mono (h _ _ w (start_io hn hl hm hp0 hv)) ?_)
 rintro ex a' w' ⟨e', h1, val, S, h2⟩
 have key := fun h => fin_io (P := P) (Post := Post) (n := xs.length) (t := t) (fn := fn) h2 h
 cases ex with
 | normal => exact key h1
 | ret => exact key h1
 | exit id => exact h1.elim
 | goto l => exact h1.elim
 | panic c => exact h1.elim
 | outgrown => exact h1.elim
theorem gicalls_of {f : FuncId} {fn : Func} {c : Code} {t : TypeId} {xs : List C} {ag : Bool} {cs : List C} {as : List Arg} {Post : Res → Prop} (hf : P.funcs[f]? = some fn) (hb : fn.body = some c) (hn : as.length + 2 ≤ fn.ntmps) (h : ∀ w0, DW P w0 c (FinIO P fn t xs.length Post) (initGI fn.ntmps t xs ag cs as)) : GICalls P f t xs ag cs as Post := by
 intro w vs val0 S0 hl hm hp0 hu hv
 refine calls_of_wp hf hb (wp_mono (h _ _ w (start_gi hn hl hm hp0 hu hv)) ?_)
 rintro ex a' w' ⟨e', h1, val, S, h2⟩
 have key := fun h => fin_io (P := P) (Post := Post) (n := xs.length) (t := t) (fn := fn) h2 h
 cases ex with
 | normal => exact key h1
 | ret => exact key h1
 | exit id => exact h1.elim
 | goto l => exact h1.elim
 | panic c => exact h1.elim
 | outgrown => exact h1.elim
end
end
section
open Go Go.RowKit
theorem pbeq (a b c d : Nat) : (((a, b) : Nat × Nat) == (c, d)) = (a == c && b == d) := rfl
theorem cellP1 (c i n : Nat) : cellP [(c, i)] n = [(c, i + n)] := cellP_snoc [] c i n
theorem cellP2 (a : Nat × Nat) (c i n : Nat) : cellP [a, (c, i)] n = [a, (c, i + n)] := cellP_snoc [a] c i n
theorem cellP3 (a b : Nat × Nat) (c i n : Nat) : cellP [a, b, (c, i)] n = [a, b, (c, i + n)] := cellP_snoc [a, b] c i n
def slotView (s g : Nat) : AV → AV
 | .own ag n => .ref s g [(0, 0)] ag n
 | .box => .ptr s g [(0, 0)] 0
 | av => av
def C.frz : C → C
 | .sl _ t k rows => .sl false t k rows
 | c => c
theorem frz_sl (o : Bool) (t : TypeId) (k : Nat) (rows : List (List C)) : (C.sl o t k rows).frz = .sl false t k rows := rfl
theorem frz_p (v : Value) : (C.p v).frz = .p v := rfl
def Env.frz (e : Env) (r : Nat) : Env := { e with con := fun key => if key = (r, 0) then (e.con key).map fun cn => { cn with xs := cn.xs.map C.frz } else e.con key }
theorem frz_n (e : Env) (r : Nat) : (e.frz r).n = e.n := rfl
theorem frz_s (e : Env) (r s : Nat) : (e.frz r).s s = e.s s := rfl
theorem frz_con (e : Env) (r : Nat) (k : CKey) : (e.frz r).con k = if k = (r, 0) then (e.con k).map (fun cn => { cn with xs := cn.xs.map C.frz }) else e.con k := rfl
theorem frz_gen (e : Env) (r s : Nat) : (e.frz r).gen s = e.gen s := rfl
theorem frz_dirty (e : Env) (r s : Nat) : (e.frz r).dirty s = e.dirty s := rfl
section
variable {ct : Cts} {e : Env} {K : Env → Prop}
theorem view_eq (e : Env) (s : Nat) : e.view s = slotView s (e.gen s) (e.s s) := by unfold Env.view slotView; cases e.s s <;> rfl
theorem q_slot {s : Nat} {k : AV → Q} : qrun ct none (.slot s k) e K = qrun ct none (k (slotView s (e.gen s) (e.s s))) e K := by simp [qrun, view_eq]
theorem q_hd {r g : Nat} {p : Path} {k : Option Hd → Q} : qrun ct none (.hd r g p k) e K = qrun ct none (k (e.hd r g p)) e K := by simp [qrun]
theorem q_cell {r g : Nat} {p : Path} {kk : Nat} {k : Option Hd → Q} : qrun ct none (.cell r g p kk k) e K = qrun ct none (k (e.cell r g p kk)) e K := by simp [qrun]
theorem q_sub {r g : Nat} {p : Path} {k : Option C → Q} : qrun ct none (.sub r g p k) e K = qrun ct none (k (e.sub r g p)) e K := by simp [qrun]
theorem q_tcon {s i : Nat} {k : Option Con → Q} : qrun ct none (.tcon s i k) e K = qrun ct none (k (e.con (s, i + 1))) e K := by simp [qrun]
theorem q_ups {us : List Upd} : qrun ct none (.ups us) e K = K (upds us e) := by simp [qrun]
theorem q_whole {r g : Nat} {k : Option (TypeId × List C) → Q} : qrun ct none (.whole r g k) e K = qrun ct none (k (e.whole r g)) e K := by simp [qrun]
theorem q_call {f : FuncId} {ro : Bool} {args : List Arg} {us : Res → List Upd} : qrun ct none (.call f ro args us) e K = ∃ Post, ct f ro args Post ∧ ∀ r, Post r → K (upds (us r) e) := by simp [qrun]
theorem w64_in (n : Int) (h : -9223372036854775808 ≤ n ∧ n ≤ 9223372036854775807) : IntKind.i64.wrap n = n := by rw [IntKind.wrap_i64]; omega
theorem mk_n (n : Nat) (sl : List (Nat × AV)) (cn : List (CKey × Con)) : (mkE n sl cn).n = n := rfl
theorem mk_s (n : Nat) (sl : List (Nat × AV)) (cn : List (CKey × Con)) (s : Nat) : (mkE n sl cn).s s = (sl.lookup s).getD .dead := rfl
theorem mk_con (n : Nat) (sl : List (Nat × AV)) (cn : List (CKey × Con)) (k : CKey) : (mkE n sl cn).con k = cn.lookup k := rfl
theorem mk_gen (n : Nat) (sl : List (Nat × AV)) (cn : List (CKey × Con)) (s : Nat) : (mkE n sl cn).gen s = 0 := rfl
theorem mk_dirty (n : Nat) (sl : List (Nat × AV)) (cn : List (CKey × Con)) (s : Nat) : (mkE n sl cn).dirty s = [] := rfl
theorem set_n (d : Nat) (av : AV) (cs : Nat → Option Con) : (e.set d av cs).n = e.n := rfl
theorem set_s (d : Nat) (av : AV) (cs : Nat → Option Con) (s : Nat) : (e.set d av cs).s s = if s = d then av else e.s s := rfl
theorem set_con (d : Nat) (av : AV) (cs : Nat → Option Con) (k : CKey) : (e.set d av cs).con k = if k.1 = d then cs k.2 else e.con k := rfl
theorem set_gen (d : Nat) (av : AV) (cs : Nat → Option Con) (s : Nat) : (e.set d av cs).gen s = if s = d then e.gen d + 1 else e.gen s := rfl
theorem set_dirty (d : Nat) (av : AV) (cs : Nat → Option Con) (s : Nat) : (e.set d av cs).dirty s = if s = d then [] else e.dirty s := rfl
theorem put_n (r : Nat) (p : Path) (y : C) : (e.put r p y).n = e.n := rfl
theorem put_s (r : Nat) (p : Path) (y : C) (s : Nat) : (e.put r p y).s s = e.s s := rfl
theorem put_cn (r : Nat) (p : Path) (y : C) (k : CKey) : (e.put r p y).con k = if k = (r, 0) then (e.con k).map (fun cn => { cn with xs := puts cn.xs y p }) else e.con k := rfl
theorem put_gen (r : Nat) (p : Path) (y : C) (s : Nat) : (e.put r p y).gen s = e.gen s := rfl
theorem put_dirty (r : Nat) (p : Path) (y : C) (s : Nat) : (e.put r p y).dirty s = if s = r then p :: e.dirty r else e.dirty s := rfl
theorem clean_s (s : Nat) : e.clean.s s = match e.s s with
 | .ref r g p ag n => if (List.range n).all (fun i => e.okB r g (cellP p i)) = true then .ref r 0 p ag n else .dead
 | .ptr r g p k => if e.okB r g p.dropLast = true then .ptr r 0 p k else .dead
 | .clo g rs => if rs.all (fun x => e.okB x.1 x.2 []) = true then .clo g (rs.map fun x => (x.1, 0)) else .dead
 | av => av := rfl
end
def AV.keep : AV → AV
 | .tup _ => .dead
 | av => av
def keepE (e : Env) (ks : List Nat) : Env := mkE e.n (ks.map fun s => (s, (e.clean.s s).keep)) (ks.filterMap fun s => (e.con (s, 0)).map fun c => ((s, 0), c))
theorem lookup_keep (e : Env) (s : Nat) : ∀ (ks : List Nat), (ks.map fun s => (s, (e.clean.s s).keep)).lookup s = if s ∈ ks then some ((e.clean.s s).keep) else none
 | [] => rfl
 | k :: ks => by
  rw [List.map_cons, List.lookup_cons]
  by_cases h : s = k
  ·subst h; simp
  ·have : (s == k) = false := by simpa using h
   rw [this]
   simp only [lookup_keep e s ks, List.mem_cons, h, false_or]
theorem lookup_con (e : Env) (k : CKey) : ∀ (ks : List Nat), (ks.filterMap fun s => (e.con (s, 0)).map fun c => ((s, 0), c)).lookup k = if k.2 = 0 ∧ k.1 ∈ ks then e.con k else none
 | [] => by simp
 | s :: ks => by
  obtain ⟨k1, k2⟩ := k
  rw [List.filterMap_cons]
  cases hc : e.con (s, 0) with
  | none =>
   simp only [Option.map_none]
   rw [lookup_con e (k1, k2) ks]
   by_cases h : k2 = 0 ∧ k1 ∈ ks
   ·rw [if_pos h, if_pos ⟨h.1, by simp [h.2]⟩]
   ·rw [if_neg h]
    by_cases h2 : k2 = 0 ∧ k1 = s
    ·obtain ⟨rfl, rfl⟩ := h2; rw [hc]; simp
    ·rw [if_neg fun h3 => by
      rcases List.mem_cons.1 h3.2 with h4 | h4
      ·exact h2 ⟨h3.1, h4⟩
      ·exact h ⟨h3.1, h4⟩]
  | some c =>
   simp only [Option.map_some]
   rw [List.lookup_cons]
   by_cases h2 : (k1, k2) = (s, 0)
   ·cases h2; simp [hc]
   ·have : ((k1, k2) == (s, 0)) = false := by simpa using h2
    rw [this]
    simp only [lookup_con e (k1, k2) ks]
    by_cases h : k2 = 0 ∧ k1 ∈ ks
    ·rw [if_pos h, if_pos ⟨h.1, by simp [h.2]⟩]
    ·rw [if_neg h, if_neg fun h3 => by
      rcases List.mem_cons.1 h3.2 with h4 | h4
      ·have h5 : k2 = 0 := h3.1
       have h6 : k1 = s := h4
       subst h5 h6; exact h2 rfl
      ·exact h ⟨h3.1, h4⟩]
theorem weak_keep (e : Env) (ks : List Nat) : Weak e (keepE e ks) := fun w0 a w hst => by
 obtain ⟨val, S, h⟩ := weak_clean e w0 a w hst
 have hcon : ∀ k x, (keepE e ks).con k = some x → e.con k = some x := fun k x hk => by
  have hk : (ks.filterMap fun s => (e.con (s, 0)).map fun c => ((s, 0), c)).lookup k = some x := hk
  rw [lookup_con] at hk
  split at hk
  ·exact hk
  ·cases hk
 have hown : ∀ b k p, OwnB (keepE e ks).con val b k p → OwnB e.con val b k p := fun b k p ho => by
  obtain ⟨x, hx⟩ := ho.some
  exact ho.con ((hcon k x hx).trans hx.symm) rfl
 refine ⟨val, S, h.sz, h.defers, ⟨fun k x p c h1 h2 => h.mem.node k x p c (hcon k x h1) h2, fun k t xs h1 => h.mem.root k t xs (hcon k _ h1), fun b k p k' p' h1 h2 => h.mem.inj b k p k' p' (hown _ _ _ h1) (hown _ _ _ h2), fun b hb => ⟨(h.mem.sep b hb).1, fun k p ho => (h.mem.sep b hb).2 k p (hown _ _ _ ho)⟩⟩, fun s => ?_, h.frm, fun b k p ho => h.low b k p (hown _ _ _ ho), fun s hs => h.rts s hs, h.sS⟩
 show SV _ _ _ _ s (((ks.map fun s => (s, (e.clean.s s).keep)).lookup s).getD .dead) _
 rw [lookup_keep]
 by_cases hs : s ∈ ks
 ·rw [if_pos hs]
  have hsv := h.slot s
  show SV _ _ _ _ s (e.clean.s s).keep _
  have hc0 : (keepE e ks).con (s, 0) = e.con (s, 0) := by
   show (ks.filterMap fun s => (e.con (s, 0)).map fun c => ((s, 0), c)).lookup (s, 0) = _
   rw [lookup_con, if_pos ⟨rfl, hs⟩]
  generalize e.clean.s s = av at *
  cases av with
  | own ag m => show TVok _ _ ((keepE e ks).con (s, 0)) _ _ _; rw [hc0]; exact hsv
  | box => exact ⟨by rw [hc0]; exact hsv.1, hsv.2⟩
  | tup ts => trivial
  | dead => trivial
  | c x => exact hsv
  | agg xs => exact hsv
  | rp xs => exact hsv
  | fn g css => exact hsv
  | clo g rs => exact hsv
  | ref r g p ag n => exact hsv
  | ptr r g p k => exact hsv
 ·rw [if_neg hs]; trivial
section
variable {P : Program} {w0 : Base} {Q : Exit → Env → Prop} {e : Env}
theorem dw_keep {y : Code} (ks : List Nat) {n : Nat} {sl : List (Nat × AV)} {cn : List (CKey × Con)} (hk : keepE e ks = mkE n sl cn) (h : DW P w0 y Q (mkE n sl cn)) : thenD (DW P w0 y Q) Q .normal e := dw_weak (weak_keep e ks) (by rw [hk]; exact h)
structure Aops (P : Program) (nn : Nat) (ds : List (Option Nat)) (l : List Oper) (e : Env) (K : Env → Prop) : Prop where
 out : ∀ (w0 : Base) (ops : Array Oper) (i : Nat) (Qx : Exit → Act → World → Prop), dsts ops = ds → ops.toList.drop i = l → e.n = nn → (∀ e a w, K e → St w0 e a w → Qx .normal a w) → ∀ a w, St w0 e a w → wpOps P ops Qx (List.range' i l.length) a w
theorem dw_region_k {id : Nat} {ops : Array Oper} {nn : Nat} {ds : List (Option Nat)} (hn : e.n = nn) (hd : dsts ops = ds) (h : ∀ K : Env → Prop, (∀ e', Q .normal e' → K e') → Aops P nn ds ops.toList e K) : DW P w0 (.region id ops false) Q e := fun a w hs => by
 have h1 := (h (Q .normal) fun _ h => h).out w0 ops 0 (fun ex a' w' => ∃ e', Q ex e' ∧ St w0 e' a' w') hd (by simp) hn (fun e a w hK hs => ⟨e, hK, hs⟩) a w hs
 rw [show List.range' 0 ops.toList.length = List.range ops.size by rw [List.range_eq_range']; simp] at h1
 exact wp_region h1
theorem dw_if {c : Operand} {x y : Code} {b : Bool} (hc : condV e c = some b) (ht : b = true → DW P w0 x Q e) (hf : b = false → DW P w0 y Q e) : DW P w0 (.cond c x y) Q e := dw_cond hc ht hf
theorem Weak.of_eq {e e' : Env} (h : e = e') : Weak e e' := h ▸ Weak.refl e
theorem aops_some {nn : Nat} {ds : List (Option Nat)} {o : Oper} {l : List Oper} {R : Env → Prop} {K : Env → Prop} (h : qrun (XCalls P) none (gQ P nn ds o) e R) (h2 : ∀ e', R e' → Aops P nn ds l e' K) : Aops P nn ds (o :: l) e K := ⟨fun w0 ops i Qx hds hl hn hK a w hs => by
 have ho : ops[i]? = some o := by
  have := congrArg (fun l => l[0]?) hl
  simpa using this
 rw [List.length_cons, List.range'_succ, wpOps_cons]
 rw [← hds] at h
 refine wpOp_mono ?_ (gQ_sound ho (fun _ _ _ _ h => h) hn (qrun_n _ _ h) hs)
 rintro a' w' ⟨e', ⟨h3, h4⟩, h5⟩
 exact (h2 e' h3).out w0 ops (i + 1) Qx hds (by rw [← List.drop_drop, hl]; rfl) (h4.trans hn) hK a' w' h5⟩
theorem aops_step {nn : Nat} {ds : List (Option Nat)} {o : Oper} {l : List Oper} {E1 : Env} {K : Env → Prop} (h : qrun (XCalls P) none (gQ P nn ds o) e (fun e' => e' = E1)) (h2 : Aops P nn ds l E1 K) : Aops P nn ds (o :: l) e K := aops_some h fun e' he => he ▸ h2
theorem aops_end {nn : Nat} {ds : List (Option Nat)} {K : Env → Prop} (h : K e) : Aops P nn ds [] e K := ⟨fun w0 ops i Qx _ _ _ hK a w hs => hK e a w h hs⟩
theorem aops_to {nn : Nat} {ds : List (Option Nat)} {l : List Oper} {e' : Env} {K : Env → Prop} (h : e = e') (h2 : Aops P nn ds l e' K) : Aops P nn ds l e K := h ▸ h2
theorem dw_leave2 {id : Nat} {next : Env → Prop} (h : Q .normal e) : DW P w0 (.exit id) (thenD next (blockD id Q)) e := dw_exit (by show (if id = id then _ else _); rw [if_pos rfl]; exact h)
theorem dw_leave3 {id : Nat} {next next2 : Env → Prop} (h : Q .normal e) : DW P w0 (.exit id) (thenD next (thenD next2 (blockD id Q))) e := dw_exit (by show (if id = id then _ else _); rw [if_pos rfl]; exact h)
theorem fin_ret {fn : Func} {res : Array ResultVar} {Post : Res → Prop} {r : Res} (hres : fn.results = res) (h : REs P e res.toList r) (hn : (res.toList.map resSlot).Nodup) (hp : Post r) : Fin P fn Post .ret e := ⟨r, by rw [hres]; exact h, by rw [hres]; exact hn, hp⟩
theorem REs.one {v : ResultVar} {r : RV} (h : RE P e v r) : REs P e [v] [r] := .cons _ _ _ _ h .nil
theorem REs.two {v v' : ResultVar} {r r' : RV} (h : RE P e v r) (h' : RE P e v' r') : REs P e [v, v'] [r, r'] := .cons _ _ _ _ h (.cons _ _ _ _ h' .nil)
theorem REs.three {v v' v2 : ResultVar} {r r' r2 : RV} (h : RE P e v r) (h' : RE P e v' r') (h2 : RE P e v2 r2) : REs P e [v, v', v2] [r, r', r2] := .cons _ _ _ _ h (.cons _ _ _ _ h' (.cons _ _ _ _ h2 .nil))
end
end
end Go.Proofs.YtdiiggpohcjppaaGreat
