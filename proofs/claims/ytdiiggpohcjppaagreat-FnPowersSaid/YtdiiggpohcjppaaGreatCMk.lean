/- Regions that draw their order, in which several operations make memory: one walk in the order of the text. No program in sight. -/
import Derived.Test.YtdiiggpohcjppaaGreatCJn6
import Derived.StillTail
import Derived.Deep.Quiet
set_option linter.unusedSimpArgs false
set_option linter.unusedVariables false
namespace Go.Proofs.YtdiiggpohcjppaaGreat
open Go Go.RowKit
def yx (o : Oper) : Bool := match o.op with
 | .move _ | .assign _ | .pick .. | .build .. | .load .. | .fieldAddr .. | .field .. | .indexAddr .. | .index .. | .extract .. | .binOp .. | .unOp .. | .convert .. | .slice .. => true
 | .call c => match c.callee with | .builtin .len => true | _ => false
 | _ => false
theorem Cc (s : Sem Value) {P : Program} {w : World} {f : FuncId} {args : Array Value} {w' : World} : ((do let u ← s; pure (Next.value u) : Sem Next)).run P w ≠ .ok (.enter f args) w' := by
 rw [Sem.run_bind]
 cases s.run P w with
 | ok u w1 => simp [Result.andThen, Sem.run_pure]
 | halt x w1 => simp [Result.andThen]
theorem og {o : Oper} (h : yx o = true) (ev : Operand → Value) {P : Program} {w : World} {f : FuncId} {args : Array Value} {w' : World} : (execOp ev o).run P w ≠ .ok (.enter f args) w' := by
 unfold yx at h
 unfold execOp
 cases ho : o.op <;> rw [ho] at h <;> simp only [] at h <;> dsimp only <;> try (exact Cc _)
 all_goals first
  | (cases h; done)
  | (rw [Sem.run_pure]; intro h; cases h; done)
  | skip
 ·rw [Sem.run_bind]
  cases (asBool _).run P w with
  | ok u w1 => simp [Result.andThen, Sem.run_pure]
  | halt x w1 => simp [Result.andThen]
 ·rename_i c
  cases hc : c.callee <;> rw [hc] at h <;> try (cases h; done)
  rename_i b
  cases b <;> try (cases h; done)
  unfold resolve
  rw [hc]
  simp only [Sem.run_bind, Sem.run_pure, Result.andThen_ok, invoke, builtin]
  cases (Builtin.len_ c.argTypes o.type (Array.map ev c.args)).run P w with
  | ok u w1 => simp [Result.andThen]
  | halt x w1 => simp [Result.andThen]
structure Mkg where
 Y : Array Value → Value → Prop
 F : Array Value → Value → Nat → Nat → World → Prop
 st : ∀ as v b e x x', Below x.heap.size x x' → F as v b e x → F as v b e x'
structure Ent where
 k : Nat
 b : Nat
 e : Nat
 F : World → Prop
 st : ∀ x x', Below x.heap.size x x' → F x → F x'
abbrev R9 (k : Nat) (s : Mkg) (as : Array Value) (v : Value) (b e : Nat) : Ent := ⟨k, b, e, s.F as v b e, s.st as v b e⟩
def jt (o : Oper) (a : Act) : Array Value := o.op.operands.map a.eval
def CB (w : World) : World → Prop := fun x => ∃ y : BW w, x = y.wd
theorem CB.iff {w x : World} : CB w x ↔ Below w.heap.size w x := ⟨fun ⟨y, h⟩ => h ▸ y.h, fun h => ⟨⟨x, h⟩, rfl⟩⟩
section
variable {P : Program} {ops : Array Oper} {w0 : World} {σ : Nat → Option Mkg}
def jb (P : Program) (R : Value → World → Prop) : Result Next → Prop
 | .ok (.value u) w' => R u w'
 | .ok .skip w' => R undef w'
 | .ok (.enter f args) w' => Calls P f args w' fun e w'' => ∃ v, e = .returned v ∧ R v w''
 | .ok (.row r args) w' => Rows P r args w' R
 | _ => False
def rz (s : Mkg) (as : Array Value) (x : World) (v : Value) (x' : World) : Prop := Below x.heap.size x x' ∧ s.Y as v ∧ s.F as v x.heap.size x'.heap.size x'
def Dn (ops : Array Oper) (j : Nat) : List Ent → World → Prop
 | [], _ => True
 | t :: I, x => (Region.waitsFor .any ops j t.k = true → t.F x) ∧ Dn ops j I x
theorem qu {j : Nat} {I : List Ent} {x : World} : Dn ops j I x ↔ ∀ t ∈ I, Region.waitsFor .any ops j t.k = true → t.F x := by
 induction I with
 | nil => simp [Dn]
 | cons t I ih => simp [Dn, ih]
def Pc : List Ent → World → Prop
 | [], _ => True
 | t :: I, x => t.F x ∧ Pc I x
theorem gr {I : List Ent} {x : World} : Pc I x ↔ ∀ t ∈ I, t.F x := by
 induction I with
 | nil => simp [Pc]
 | cons t I ih => simp [Pc, ih]
def Vu (P : Program) (ops : Array Oper) (w0 : World) (s : Mkg) (j : Nat) (o : Oper) (a : Act) (I : List Ent) : Prop :=
 ∀ x, CB w0 x → Dn ops j I x → jb P (rz s (jt o a) x) ((execOp a.eval o).run P x)
def Safe (P : Program) (ops : Array Oper) (w0 : World) (σ : Nat → Option Mkg) (i : Nat) (o : Oper) (a : Act) (I : List Ent) : Prop :=
 Region.wanted o (yielded ops a.tmps) = true → match σ i with
  | none => yx o = true ∧ ∃ v, ∀ x, CB w0 x → o.quietAt P a (CB w0) x v
  | some s => Vu P ops w0 s i o a I
def Outc (P : Program) (ops : Array Oper) (w0 : World) (σ : Nat → Option Mkg) (i : Nat) (o : Oper) (a : Act) (v : Value) (J : List Ent) : Prop :=
 if Region.wanted o (yielded ops a.tmps) = true then match σ i with
  | none => (∀ x, CB w0 x → o.quietAt P a (CB w0) x v) ∧ J = []
  | some s => s.Y (jt o a) v ∧ ∃ b e, J = [R9 i s (jt o a) v b e]
 else v = undef ∧ J = []
def Dis (I : List Ent) : Prop := I.Pairwise fun p q => p.e ≤ q.b ∨ q.e ≤ p.b
theorem Dis.perm {I I' : List Ent} (h : I.Perm I') : Dis I ↔ Dis I' := h.pairwise_iff fun h => h.symm
structure Got (w0 : World) (I : List Ent) (x : World) : Prop where
 b : Below w0.heap.size w0 x
 f : Pc I x
 dis : Dis I
 ord : ∀ p ∈ I, w0.heap.size ≤ p.b ∧ p.b ≤ p.e ∧ p.e ≤ x.heap.size
theorem Got.more {I : List Ent} {x x' : World} {s : Mkg} {as : Array Value} {v : Value} {i : Nat} (h : Got w0 I x) (hg : rz s as x v x') :
 Got w0 ([R9 i s as v x.heap.size x'.heap.size] ++ I) x' := by
 obtain ⟨h1, h2, h3⟩ := hg
 refine ⟨Below.then_ h.b h1, ⟨h3, gr.2 fun t ht => t.st _ _ h1 (gr.1 h.f t ht)⟩, ?_, fun p hp => ?_⟩
 ·refine List.pairwise_cons.2 ⟨fun q hq => .inr (h.ord q hq).2.2, h.dis⟩
 ·rcases List.mem_cons.1 hp with rfl | hp
  ·exact ⟨h.b.size, h1.size, Nat.le_refl _⟩
  ·obtain ⟨a1, a2, a3⟩ := h.ord p hp
   exact ⟨a1, a2, Nat.le_trans a3 h1.size⟩
theorem Got.sub {I I' : List Ent} {x : World} (h : Got w0 I x) (hs : I'.Sublist I) : Got w0 I' x :=
 ⟨h.b, gr.2 fun t ht => gr.1 h.f t (hs.subset ht), h.dis.sublist hs, fun p hp => h.ord p (hs.subset hp)⟩
theorem Got.perm {I I' : List Ent} {x : World} (h : Got w0 I x) (hp : I.Perm I') : Got w0 I' x :=
 ⟨h.b, gr.2 fun t ht => gr.1 h.f t (hp.mem_iff.2 ht), (Dis.perm hp).1 h.dis, fun p hp' => h.ord p (hp.mem_iff.2 hp')⟩
def Ct (w0 : World) (I : List Ent) : Prop := ∃ x, Got w0 I x
abbrev Kt := List Ent → Act → Prop
def mOp (P : Program) (ops : Array Oper) (w0 : World) (σ : Nat → Option Mkg) (i : Nat) (K : Kt) : Kt := fun I a =>
 match ops[i]? with
 | none => K I a
 | some o => Safe P ops w0 σ i o a I ∧ ∀ v J, Outc P ops w0 σ i o a v J → Ct w0 (J ++ I) → K (J ++ I) (a.put o.dst v)
def Iu (K : Kt) : Prop := ∀ I I' a, I.Perm I' → K I a → K I' a
theorem Rr {i : Nat} {K K' : Kt} {I : List Ent} {a : Act} (hR : Ct w0 I) (h : ∀ I a, Ct w0 I → K I a → K' I a) (hh : mOp P ops w0 σ i K I a) : mOp P ops w0 σ i K' I a := by
 unfold mOp at *
 split
 ·rename_i ho; rw [ho] at hh; exact h _ _ hR hh
 ·rename_i o ho
  rw [ho] at hh
  exact ⟨hh.1, fun v J hv hr => h _ _ hr (hh.2 v J hv hr)⟩
theorem Safe.known {i : Nat} {o : Oper} {a : Act} {I I' : List Ent} (h : Safe P ops w0 σ i o a I) (hI : ∀ t ∈ I, Region.waitsFor .any ops i t.k = true → t ∈ I') : Safe P ops w0 σ i o a I' := by
 unfold Safe at *
 intro hw
 have h' := h hw
 cases hs : σ i with
 | none => rw [hs] at h'; exact h'
 | some s =>
  rw [hs] at h'
  exact fun x hx hn => h' x hx (qu.2 fun t ht hwt => qu.1 hn t (hI t ht hwt) hwt)
theorem Rs {i : Nat} {K : Kt} (hK : Iu K) : Iu (mOp P ops w0 σ i K) := by
 intro I I' a hI hh
 unfold mOp at *
 split
 ·rename_i ho; rw [ho] at hh; exact hK _ _ _ hI hh
 ·rename_i o ho
  rw [ho] at hh
  exact ⟨hh.1.known fun t ht _ => hI.mem_iff.1 ht, fun v J hv ⟨x, hx⟩ => hK _ _ _ (hI.append_left J) (hh.2 v J hv ⟨x, hx.perm (hI.append_left J).symm⟩)⟩
theorem Jt {o : Oper} {a : Act} {dst : Option Tmp} {v : Value} (h : ∀ d, dst = some d → d ∉ o.looksAt ops) : jt o (a.put dst v) = jt o a := by
 unfold jt
 refine Array.map_congr_left fun x hx => Act.eval_put fun d hd hxd => h d hd ?_
 subst hxd
 exact List.mem_append_left _ (List.mem_filterMap.2 ⟨.tmp d, by simpa using hx, rfl⟩)
theorem E8 {R : Value → World → Prop} {r : Result Next} (h : jb P R r) : ∃ v x', R v x' := by
 cases r with
 | ok n w' =>
  cases n <;> simp only [jb] at h
  case value u => exact ⟨_, _, h⟩
  case skip => exact ⟨_, _, h⟩
  case enter f args =>
   obtain ⟨e, w1, fr, ⟨v, _, hr⟩, -⟩ := h []
   exact ⟨_, _, hr⟩
  case row rw args =>
   obtain ⟨v, w1, hr, -⟩ := h (Frame.enter P 0 #[] .normal) []
   exact ⟨_, _, hr⟩
 | halt y w' => simp only [jb] at h
theorem qh {i : Nat} {o : Oper} {a : Act} {I : List Ent} (h : Safe P ops w0 σ i o a I) {x : World} (hx : Got w0 I x) : ∃ v J x', Outc P ops w0 σ i o a v J ∧ Got w0 (J ++ I) x' := by
 unfold Safe at h
 unfold Outc
 by_cases hw : Region.wanted o (yielded ops a.tmps) = true
 ·have h' := h hw
  simp only [hw, if_true]
  cases hs : σ i with
  | none =>
   rw [hs] at h'
   obtain ⟨_, v, hv⟩ := h'
   exact ⟨v, _, x, ⟨hv, rfl⟩, hx⟩
  | some s =>
   rw [hs] at h'
   obtain ⟨v, x', hg⟩ := E8 (h' x (CB.iff.2 hx.b) (qu.2 fun t ht _ => gr.1 hx.f t ht))
   exact ⟨v, _, x', ⟨hg.2.1, _, _, rfl⟩, hx.more hg⟩
 ·simp only [hw, if_false, Bool.false_eq_true]
  exact ⟨_, _, x, ⟨rfl, rfl⟩, hx⟩
def SameOp (ops : Array Oper) (o : Oper) (a a' : Act) : Prop := execOp a'.eval o = execOp a.eval o ∧ Region.wanted o (yielded ops a'.tmps) = Region.wanted o (yielded ops a.tmps) ∧ jt o a' = jt o a
theorem SameOp.put {o : Oper} (hs : ∀ cs b, o.op ≠ .select cs b) (a : Act) (dst : Option Tmp) (v : Value) (h : ∀ d, dst = some d → d ∉ o.looksAt ops) : SameOp ops o a (a.put dst v) :=
 ⟨execOp_put o hs a dst v h, wanted_put o a dst v h, Jt h⟩
theorem SameOp.safe {i : Nat} {o : Oper} {a a' : Act} (h : SameOp ops o a a') {I : List Ent} : Safe P ops w0 σ i o a' I ↔ Safe P ops w0 σ i o a I := by
 unfold Safe Vu Oper.quietAt
 rw [h.1, h.2.1, h.2.2]
theorem SameOp.outc {i : Nat} {o : Oper} {a a' : Act} (h : SameOp ops o a a') {v : Value} {J : List Ent} : Outc P ops w0 σ i o a' v J ↔ Outc P ops w0 σ i o a v J := by
 unfold Outc Oper.quietAt
 rw [h.1, h.2.1, h.2.2]
theorem Outc.tag {i : Nat} {o : Oper} {a : Act} {v : Value} {J : List Ent} (h : Outc P ops w0 σ i o a v J) : ∀ t ∈ J, t.k = i := by
 unfold Outc at h
 split at h
 ·cases hs : σ i with
  | none => rw [hs] at h; obtain ⟨-, rfl⟩ := h; intro t ht; cases ht
  | some s =>
   rw [hs] at h
   obtain ⟨-, b, e, rfl⟩ := h
   intro t ht
   rw [List.mem_singleton.1 ht]
 ·obtain ⟨-, rfl⟩ := h; intro t ht; cases ht
theorem Uc {i j : Nat} {oi oj : Oper} (hj : ops[j]? = some oj) (hap : oi.apart ops oj = true) (hnw : Region.waitsFor .any ops j i = false)
 (hsi : ∀ cs b, oi.op ≠ .select cs b) (hsj : ∀ cs b, oj.op ≠ .select cs b) {K : Kt} (hK : Iu K) {I : List Ent} {a : Act} (hR : Ct w0 I)
 (hy : Safe P ops w0 σ i oi a I) (h : ∀ v J, Outc P ops w0 σ i oi a v J → Ct w0 (J ++ I) → mOp P ops w0 σ j K (J ++ I) (a.put oi.dst v)) :
 mOp P ops w0 σ j (fun I' a' => Safe P ops w0 σ i oi a' I' ∧ ∀ v J, Outc P ops w0 σ i oi a' v J → Ct w0 (J ++ I') → K (J ++ I') (a'.put oi.dst v)) I a := by
 obtain ⟨h1, h2, h3⟩ := Oper.apart_spec hap
 obtain ⟨x, hx⟩ := hR
 unfold mOp at *
 simp only [hj] at *
 refine ⟨?_, fun v J hv _ => ⟨((SameOp.put hsi a oj.dst v h3).safe.2 hy).known fun t ht _ => List.mem_append_right _ ht, fun v' J' hv' ⟨y, hy'⟩ => ?_⟩⟩
 ·obtain ⟨v, J, x', hv, hx'⟩ := qh hy hx
  refine ((SameOp.put hsj a oi.dst v h1).safe.1 (h v J hv ⟨x', hx'⟩).1).known fun t ht hwt => ?_
  rcases List.mem_append.1 ht with ht | ht
  ·rw [hv.tag t ht, hnw] at hwt; cases hwt
  ·exact ht
 ·have hp : (J' ++ (J ++ I)).Perm (J ++ (J' ++ I)) := by
   rw [← List.append_assoc, ← List.append_assoc]
   exact List.perm_append_comm.append_right I
  have h4 := (h v' J' ((SameOp.put hsi a oj.dst v h3).outc.1 hv') ⟨y, hy'.sub ((List.sublist_append_right J I).append_left J')⟩).2 v J ((SameOp.put hsj a oi.dst v' h1).outc.2 hv) ⟨y, hy'.perm hp⟩
  rw [Act.put_comm a v' v h2] at h4
  exact hK _ _ _ hp.symm h4
theorem Gg {i : Nat} {K : Kt} {K' : Act → World → Prop} {Q' : Exit → Act → World → Prop} {I : List Ent} {a : Act} {x : World} (hg : Got w0 I x)
 (h : ∀ I a' x', Got w0 I x' → K I a' → K' a' x') (hh : mOp P ops w0 σ i K I a) : wpOp P ops Q' i K' a x := by
 unfold mOp at hh
 unfold wpOp
 split
 ·rename_i ho; simp only [ho] at hh; exact h _ _ _ hg hh
 ·rename_i o ho
  simp only [ho] at hh
  obtain ⟨hsafe, hk⟩ := hh
  split
  ·rename_i hw
   refine .inl ?_
   have hs := hsafe hw
   unfold Outc at hk
   simp only [hw, if_true] at hk
   cases hσ : σ i with
   | none =>
    simp only [hσ] at hs hk
    obtain ⟨hv, v, hq⟩ := hs
    have hx := hq x (CB.iff.2 hg.b)
    have hk' := h _ _ _ hg (hk v [] ⟨hq, rfl⟩ ⟨x, hg⟩)
    unfold Oper.quietAt at hx
    unfold Oper.wp
    generalize hr : (execOp a.eval o).run P x = r at hx ⊢
    cases r with
    | ok n w' =>
     cases n <;> simp only [Oper.quietUpon] at hx <;> simp only [Oper.upon]
     case value u =>
      obtain ⟨rfl, rfl⟩ := hx
      exact hk'
     case skip =>
      obtain ⟨rfl, rfl⟩ := hx
      exact hk'
     case enter f args => exact absurd hr (og hv _)
    | halt y w' => simp only [Oper.quietUpon] at hx
   | some s =>
    simp only [hσ] at hs hk
    have hx := hs x (CB.iff.2 hg.b) (qu.2 fun t ht _ => gr.1 hg.f t ht)
    unfold Oper.wp
    generalize (execOp a.eval o).run P x = r at hx ⊢
    have key : ∀ v x', rz s (jt o a) x v x' → K' (a.put o.dst v) x' := fun v x' hv => h _ _ _ (hg.more hv) (hk v _ ⟨hv.2.1, _, _, rfl⟩ ⟨x', hg.more hv⟩)
    cases r with
    | ok n w' =>
     cases n <;> simp only [jb] at hx <;> simp only [Oper.upon]
     case value u => exact key _ _ hx
     case skip => exact key _ _ hx
     case enter f args => exact hx.mono fun e w'' ⟨v, he, hr⟩ => by subst he; exact key _ _ hr
     case row r args => exact hx.mono fun v w'' hr => key _ _ hr
    | halt y w' => simp only [jb] at hx
  ·rename_i hw
   unfold Outc at hk
   simp only [hw] at hk
   exact h _ _ _ hg (hk undef [] ⟨rfl, rfl⟩ ⟨x, hg⟩)
def Bu (o : Oper) : Bool := match o.op with
 | .move _ | .assign _ | .extract .. => true
 | _ => false
theorem H8 {u : Value} {ix : Nat} : (∃ v, ∀ w', (Instr.extract u ix).run P w' = .ok v w') ∨ ∃ h, ∀ w', (Instr.extract u ix).run P w' = .halt h w' := by
 unfold Instr.extract
 cases u with
 | tuple vs =>
  dsimp only
  cases vs[ix]? with
  | some v => exact .inl ⟨v, fun w' => Sem.run_pure ..⟩
  | none => exact .inr ⟨_, fun w' => rfl⟩
 | _ => exact .inr ⟨_, fun w' => rfl⟩
theorem yi {o : Oper} (h : Bu o = true) (ev : Operand → Value) : (∃ v, ∀ w', (execOp ev o).run P w' = .ok (.value v) w') ∨ ∃ x, ∀ w', (execOp ev o).run P w' = .halt x w' := by
 unfold Bu at h
 unfold execOp
 cases ho : o.op <;> rw [ho] at h <;> simp only [] at h <;> try (cases h; done)
 all_goals dsimp only
 ·exact .inl ⟨_, fun w' => Sem.run_pure ..⟩
 ·exact .inl ⟨_, fun w' => Sem.run_pure ..⟩
 ·rename_i t ix
  rcases H8 (P := P) (u := ev t) (ix := ix) with ⟨v, hv⟩ | ⟨x, hx⟩
  ·exact .inl ⟨v, fun w' => by rw [Sem.run_bind, hv]; simp [Result.andThen, Sem.run_pure]⟩
  ·exact .inr ⟨x, fun w' => by rw [Sem.run_bind, hx]; simp [Result.andThen]⟩
theorem Cp {o : Oper} (h : Bu o = true) (ev : Operand → Value) {w : World} {v : Value} (hr : (execOp ev o).run P w = .ok (.value v) w) (w' : World) : (execOp ev o).run P w' = .ok (.value v) w' := by
 rcases yi (P := P) h ev with ⟨u, hu⟩ | ⟨x, hx⟩
 ·rw [hu w] at hr; cases hr; exact hu w'
 ·rw [hx w] at hr; cases hr
theorem Ft {o : Oper} (h : Bu o = true) (ev : Operand → Value) {w : World} : match (execOp ev o).run P w with | .ok (.value _) _ => True | .ok _ _ => False | .halt _ _ => True := by
 rcases yi (P := P) h ev with ⟨u, hu⟩ | ⟨x, hx⟩
 ·rw [hu w]; trivial
 ·rw [hx w]; trivial
def la (P : Program) (ops : Array Oper) (w0 : World) (σ : Nat → Option Mkg) (n z : Nat) (L : Array Bool → Kt) : Nat → Array Bool → Kt
 | 0, listed, I, a => L listed I a
 | f + 1, listed, I, a =>
  Region.ready .any ops listed ≠ [] ∧ ∀ i ∈ Region.ready .any ops listed, (i < n ∧ mOp P ops w0 σ i (la P ops w0 σ n z L f (listed.setIfInBounds i true)) I a) ∨ (n ≤ i ∧ f = 0 ∧ z < n ∧ z ∈ Region.ready .any ops listed)
theorem tp {n z : Nat} {L : Array Bool → Kt} (hL : ∀ l, Iu (L l)) : ∀ (f : Nat) (listed : Array Bool), Iu (la P ops w0 σ n z L f listed)
 | 0, listed => hL listed
 | f + 1, listed => fun I I' a hI h => ⟨h.1, fun i hi => (h.2 i hi).imp (fun h => ⟨h.1, Rs (tp hL f _) I I' a hI h.2⟩) id⟩
def zB (ops : Array Oper) (σ : Nat → Option Mkg) (z : Nat) : Bool := (match ops[z]? with
 | none => true
 | some o => Bu o && o.guard.isNone && (List.range ops.size).all fun j => j == z || Region.waitsFor .any ops j z || Region.waitsFor .any ops z j || (match ops[j]? with | some oj => o.apart ops oj | none => true)) && (σ z).isNone
theorem o7 {n z g : Nat} {L : Array Bool → Kt} {Q' : Exit → Act → World → Prop} (hsel : Region.noSelect ops = true) (hz : zB ops σ z = true) (hQ : ∀ o, ops[z]? = some o → ∀ c a v w, Q' (.panic c) (Act.put a o.dst v) w → Q' (.panic c) a w)
 (hL : ∀ listed I a x, Got w0 I x → L listed I a → wpAny P .any ops Q' g listed a x) :
 ∀ (f : Nat) (listed : Array Bool) (I : List Ent) (a : Act) (x : World), Got w0 I x → la P ops w0 σ n z L f listed I a → wpAny P .any ops Q' (f + g) listed a x
 | 0, listed, I, a, x, hg, h => by rw [Nat.zero_add]; exact hL _ _ _ _ hg h
 | f + 1, listed, I, a, x, hg, h => by
  rw [show f + 1 + g = (f + g) + 1 by omega]
  by_cases hall : ∀ i ∈ Region.ready .any ops listed, i < n
  ·refine ⟨fun h0 => absurd h0 h.1, fun i hi => Gg (σ := σ) (K := la P ops w0 σ n z L f (listed.setIfInBounds i true)) hg (fun I' a' x' hg' h' => o7 hsel hz hQ hL f _ I' a' x' hg' h') ?_⟩
   rcases h.2 i hi with h1 | h1
   ·exact h1.2
   ·exact absurd (hall i hi) (by omega)
  ·have hex : ∃ i, i ∈ Region.ready .any ops listed ∧ ¬ i < n := by
    false_or_by_contra
    rename_i hc
    exact hall fun i hi => by
     false_or_by_contra
     rename_i hn
     exact hc ⟨i, hi, hn⟩
   obtain ⟨i, hi, hin⟩ := hex
   rcases h.2 i hi with h1 | ⟨-, rfl, hzn, hzr⟩
   ·exact absurd h1.1 hin
   ·rcases h.2 z hzr with h2 | h2
    ·have hm := h2.2
     obtain ⟨hzun, oz, hoz, hallz⟩ := mem_ready.1 hzr
     unfold mOp at hm
     simp only [hoz] at hm
     obtain ⟨hs, hk⟩ := hm
     unfold zB at hz
     rw [hoz] at hz
     simp only [Bool.and_eq_true, List.all_eq_true, List.mem_range, Bool.or_eq_true, beq_iff_eq, Option.isNone_iff_eq_none] at hz
     obtain ⟨⟨⟨hb, hgd⟩, hfr⟩, hσ⟩ := hz
     have hw : Region.wanted oz (yielded ops a.tmps) = true := by simp [Region.wanted, hgd]
     have hs' := hs hw
     rw [hσ] at hs'
     obtain ⟨-, v, hq⟩ := hs'
     have hk' := hk v [] (by unfold Outc; simp only [hw, if_true, hσ]; exact ⟨hq, trivial⟩) ⟨x, hg⟩
     have hrun : (execOp a.eval oz).run P x = .ok (.value v) x := by
      have h3 := hq x (CB.iff.2 hg.b)
      unfold Oper.quietAt at h3
      have hv := Ft hb a.eval (P := P) (w := x)
      generalize (execOp a.eval oz).run P x = r at h3 hv ⊢
      cases r with
      | ok nx w' =>
       cases nx <;> simp only [Oper.quietUpon] at h3 <;> simp only [] at hv
       case value u => obtain ⟨rfl, rfl⟩ := h3; rfl
      | halt y w' => simp only [Oper.quietUpon] at h3
     refine wpAny_first hoz (Region.noSelect_spec hsel) (fun c a' w' h => hQ oz hoz c a' _ w' h) (0 + g) listed a x (fun j oj hoj hjz hjun hnw => ?_) hzr (.inl ⟨hw, Cp hb a.eval hrun⟩) ?_
     ·rcases hfr j (Array.getElem?_eq_some_iff.1 hoj).1 with ((h4 | h4) | h4) | h4
      ·exact absurd h4 hjz
      ·obtain ⟨oj', hoj', e, he, hbd, hon⟩ := Region.waitsFor_spec h4
       rw [hoj] at hoj'
       cases hoj'
       exact absurd hon (hnw e he hbd)
      ·obtain ⟨oz', hoz', e, he, hbd, hon⟩ := Region.waitsFor_spec h4
       rw [hoz] at hoz'
       cases hoz'
       have h5 := hallz e he hbd
       rw [hon, getD_both hjun] at h5
       cases h5
      ·rw [hoj] at h4; exact h4
     ·rw [Nat.zero_add]
      exact hL _ _ _ _ hg hk'
    ·exact absurd hzn (by omega)
def Ho (ops : Array Oper) (n z : Nat) : Bool := decide (n = ops.size) || (decide (n < ops.size) && ((List.range n).all fun i => i == z || (List.range (n + 1)).any fun j => decide (i < j) && !(j == z) && Region.waitsFor .any ops j i) && Region.chainB .any ops n)
theorem Gj {n z : Nat} {listed : Array Bool} (hs : ((List.range n).all fun i => i == z || (List.range (n + 1)).any fun j => decide (i < j) && !(j == z) && Region.waitsFor .any ops j i) = true) (hc : Region.chainB .any ops n = true) (inv : HeadInv .any ops n listed) :
 ∀ (d i : Nat), n - i = d → i < n → i ≠ z → listed.getD i true = false → ∀ t, n ≤ t → t ∉ Region.ready .any ops listed := by
 intro d
 induction d using Nat.strongRecOn with
 | _ d ih =>
  intro i hd hi hiz hun t ht hr
  obtain ⟨_, ot, hot, hall⟩ := mem_ready.1 hr
  have htlt : t < ops.size := (Array.getElem?_eq_some_iff.1 hot).1
  by_cases htn : t = n
  ·subst htn
   have h1 := List.all_eq_true.1 hs i (List.mem_range.2 hi)
   simp only [Bool.or_eq_true, beq_iff_eq, hiz, false_or] at h1
   obtain ⟨j, hj, hj2⟩ := List.any_eq_true.1 h1
   simp only [Bool.and_eq_true, decide_eq_true_eq, Bool.not_eq_true', beq_eq_false_iff_ne] at hj2
   obtain ⟨⟨hij, hjz⟩, hj2⟩ := hj2
   obtain ⟨oj, hoj, e, he, hb, hon⟩ := Region.waitsFor_spec hj2
   have hjle : j ≤ t := by have := List.mem_range.1 hj; omega
   by_cases hjt : j = t
   ·subst hjt
    have : oj = ot := Option.some.inj (hoj.symm.trans hot)
    subst this
    have h2 := hall e he hb
    rw [hon, getD_both hun] at h2
    cases h2
   ·cases hl : listed.getD j false with
    | true =>
     have h2 := inv.closed j oj hoj hl e he hb
     rw [hon, getD_both hun] at h2
     cases h2
    | false =>
     have hjs : j < listed.size := by rw [inv.size]; omega
     exact ih (t - j) (by omega) j rfl (by omega) hjz (getD_in hjs hl) t (Nat.le_refl _) hr
  ·have h1 := List.all_eq_true.1 hc t (List.mem_range.2 htlt)
   simp only [Bool.or_eq_true, decide_eq_true_eq] at h1
   rcases h1 with h1 | h1
   ·omega
   ·obtain ⟨o', ho', e, he, hb, hon⟩ := Region.waitsFor_spec h1
    have : o' = ot := Option.some.inj (ho'.symm.trans hot)
    subst this
    have h2 := hall e he hb
    rw [hon, getD_both (inv.tail (t - 1) (by omega) (by omega))] at h2
    cases h2
theorem Zs {n z : Nat} {listed : Array Bool} (hb : Ho ops n z = true) (inv : HeadInv .any ops n listed) {i : Nat} (hin : i < n) (hiz : i ≠ z) (hun : listed.getD i true = false) {j : Nat} (hj : j ∈ Region.ready .any ops listed) : j < n := by
 simp only [Ho, Bool.or_eq_true, Bool.and_eq_true, decide_eq_true_eq] at hb
 rcases hb with rfl | ⟨⟨hn, hs⟩, hc⟩
 ·obtain ⟨_, oj, hoj, _⟩ := mem_ready.1 hj
  exact (Array.getElem?_eq_some_iff.1 hoj).1
 ·rcases Nat.lt_or_ge j n with h | h
  ·exact h
  ·exact absurd hj (Gj (by simpa using hs) hc inv _ i rfl hin hiz hun j h)
theorem B9 {n z i : Nat} {oi : Oper} {L : Array Bool → Kt} (hL : ∀ l, Iu (L l)) (hi : ops[i]? = some oi) (hsel : ∀ (j : Nat) (o : Oper) cs b, ops[j]? = some o → o.op ≠ .select cs b)
 (hb : Ho ops n z = true) (hin : i < n) (hdone : ∀ listed I a, L listed I a → ∀ j ∈ Region.ready .any ops listed, n ≤ j) :
 ∀ (f : Nat) (listed : Array Bool) (I : List Ent) (a : Act), Ct w0 I → HeadInv .any ops n listed →
  (∀ j oj, ops[j]? = some oj → j ≠ i → listed.getD j true = false → (∀ e ∈ oj.after, Region.binds .any e = true → e.on ≠ i) → oi.apart ops oj = true) →
  i ∈ Region.ready .any ops listed → Safe P ops w0 σ i oi a I →
  (∀ v J, Outc P ops w0 σ i oi a v J → Ct w0 (J ++ I) → la P ops w0 σ n z L f (listed.setIfInBounds i true) (J ++ I) (a.put oi.dst v)) → la P ops w0 σ n z L (f + 1) listed I a := by
 intro f
 induction f with
 | zero =>
  intro listed I a hR inv _ hr hy H
  have hun := (mem_ready.1 hr).1
  refine ⟨fun h => (by rw [h] at hr; cases hr), fun j hj => ?_⟩
  by_cases hji : j = i
  ·subst hji
   refine .inl ⟨hin, ?_⟩
   unfold mOp
   simp only [hi]
   exact ⟨hy, H⟩
  ·obtain ⟨x, hx⟩ := hR
   obtain ⟨v, J, x', hv, hx'⟩ := qh hy hx
   have h1 := hdone _ _ _ (H v J hv ⟨x', hx'⟩) j (ready_mono hj hji)
   by_cases hiz : i = z
   ·subst hiz
    exact .inr ⟨h1, rfl, hin, hr⟩
   ·have h2 := Zs hb inv hin hiz hun hj
    omega
 | succ f ih =>
  intro listed I a hR inv hfree hr hy H
  have hun := (mem_ready.1 hr).1
  refine ⟨fun h => (by rw [h] at hr; cases hr), fun j hj => ?_⟩
  by_cases hji : j = i
  ·subst hji
   refine .inl ⟨hin, ?_⟩
   unfold mOp
   simp only [hi]
   exact ⟨hy, H⟩
  have hjn : j < n := by
   by_cases hiz : i = z
   ·subst hiz
    obtain ⟨x, hx⟩ := hR
    obtain ⟨v, J, x', hv, hx'⟩ := qh hy hx
    rcases (H v J hv ⟨x', hx'⟩).2 j (ready_mono hj hji) with h3 | ⟨-, -, -, h3⟩
    ·exact h3.1
    ·have h4 := (mem_ready.1 h3).1
     have hlt : i < listed.size := by
      rcases Nat.lt_or_ge i listed.size with h' | h'
      ·exact h'
      ·simp [Array.getElem?_eq_none h'] at hun
     simp [hlt] at h4
   ·exact Zs hb inv hin hiz hun hj
  refine .inl ⟨hjn, ?_⟩
  ·obtain ⟨hjun, oj, hoj, hall⟩ := mem_ready.1 hj
   have hnot : ∀ e ∈ oj.after, Region.binds .any e = true → e.on ≠ i := fun e he hb heq => by
    have h1 := hall e he hb
    rw [heq, getD_both hun] at h1
    cases h1
   have hnw : Region.waitsFor .any ops j i = false := by
    rw [← Bool.not_eq_true]
    intro hwt
    obtain ⟨oj', hoj', e, he, hb, hon⟩ := Region.waitsFor_spec hwt
    rw [hoj] at hoj'
    cases hoj'
    exact hnot e he hb hon
   have h2 := Uc (K := la P ops w0 σ n z L f ((listed.setIfInBounds i true).setIfInBounds j true)) hoj (hfree j oj hoj hji hjun hnot) hnw (fun cs b => hsel i oi cs b hi) (fun cs b => hsel j oj cs b hoj) (tp hL f _) hR hy
    (fun v J hv hr' => by
      rcases (H v J hv hr').2 j (ready_mono hj hji) with h3 | ⟨h3, -⟩
      ·exact h3.2
      ·omega)
   have hfree' : ∀ k ok, ops[k]? = some ok → k ≠ i → (listed.setIfInBounds j true).getD k true = false →
    (∀ e ∈ ok.after, Region.binds .any e = true → e.on ≠ i) → oi.apart ops ok = true := fun k ok hk hki hun hno => by
    refine hfree k ok hk hki ?_ hno
    by_cases hjk : j = k
    ·subst hjk; exact hjun
    ·rw [getD_set_ne true hjk] at hun; exact hun
   refine Rr hR (fun I' a' hR' h3 => ih (listed.setIfInBounds j true) I' a' hR' (inv.set hj hjn) hfree' (ready_mono hr (Ne.symm hji)) h3.1 ?_) h2
   rw [Array.setIfInBounds_comm _ _ hji]
   exact h3.2
def Gh (P : Program) (ops : Array Oper) (w0 : World) (σ : Nat → Option Mkg) (L : Kt) : Nat → List Oper → Kt
 | _, [], I, a => L I a
 | k, o :: l, I, a => Safe P ops w0 σ k o a I ∧ ∀ v J, Outc P ops w0 σ k o a v J → Ct w0 (J ++ I) → Gh P ops w0 σ L (k + 1) l (J ++ I) (a.put o.dst v)
theorem xp {n z g : Nat} {Lq : Kt} (hLq : Iu Lq) (hsel : Region.noSelect ops = true) (hb : Ho ops n z = true) :
 ∀ (l : List Oper) (k : Nat) (listed : Array Bool) (I : List Ent) (a : Act), Ct w0 I → (∀ j, j < l.length → l[j]? = ops[k + j]?) → k + l.length = n → HeadInv .any ops n listed →
 Region.lexHead .any ops g l.length k listed = true → Gh P ops w0 σ Lq k l I a →
 la P ops w0 σ n z (fun listed' I' a' => Region.seqB .any ops g n listed' = true ∧ Lq I' a') l.length listed I a
 | [], k, listed, I, a, _, _, hk, _, hB, h => by
  have : k = n := by simpa using hk
  subst this
  exact ⟨by simpa [Region.lexHead] using hB, h⟩
 | o :: l, k, listed, I, a, hR, hl, hk, inv, hB, h => by
  have h0 : ops[k]? = some o := by simpa using (hl 0 (by simp)).symm
  simp only [List.length_cons, Region.lexHead, Bool.and_eq_true] at hB
  obtain ⟨⟨hr, hf⟩, hB'⟩ := hB
  have hkn : k < n := by simp only [List.length_cons] at hk; omega
  have hr' : k ∈ Region.ready .any ops listed := by simpa using hr
  exact B9 (L := fun listed' I' a' => Region.seqB .any ops g n listed' = true ∧ Lq I' a') (fun l' I I' a hI h => ⟨h.1, hLq _ _ _ hI h.2⟩) h0 (Region.noSelect_spec hsel) hb hkn (fun listed' I a' hL => seqB_ready hL.1) l.length listed I a hR inv (Region.free_spec h0 hf) hr' h.1
   (fun v J hv hr'' => xp hLq hsel hb l (k + 1) _ _ _ hr'' (fun j hj => by have := hl (j + 1) (by simp; omega); simpa [Nat.add_assoc, Nat.add_comm 1 j] using this) (by simp only [List.length_cons] at hk; omega) (inv.set hr' hkn) hB' (h.2 v J hv hr''))
def mkB (ops : Array Oper) (σ : Nat → Option Mkg) (n z : Nat) : Bool :=
 Region.noSelect ops && decide (n ≤ ops.size) && zB ops σ z && Ho ops n z && Region.lexHead .any ops (ops.size - n) n 0 (Array.replicate ops.size false)
def Then (P : Program) (ops : Array Oper) (w0 : World) (Q : Exit → Act → World → Prop) (tail : List Oper) : Kt := fun I a => ∀ x, Below w0.heap.size w0 x → Pc I x → Dis I → (∀ p ∈ I, w0.heap.size ≤ p.b ∧ p.b ≤ p.e ∧ p.e ≤ x.heap.size) → wpList P ops Q tail a x
theorem Then.anti {Q : Exit → Act → World → Prop} {tail : List Oper} : Iu (Then P ops w0 Q tail) := fun I I' a hI h x hb hx hd ho =>
 h x hb (gr.2 fun t ht => gr.1 hx t (hI.mem_iff.1 ht)) ((Dis.perm hI).2 hd) fun p hp => ho p (hI.mem_iff.1 hp)
end
theorem oe {P : Program} {id : Nat} {Q : Exit → Act → World → Prop} {a : Act} {w : World} {l : List Oper} (σ : Nat → Option Mkg) (n z : Nat) (hm : P.follows .mixedOrders = true) (hB : mkB l.toArray σ n z = true)
 (hQ : ∀ o, l[z]? = some o → ∀ c a v w, Q (.panic c) (Act.put a o.dst v) w → Q (.panic c) a w)
 (h : Gh P l.toArray w σ (Then P l.toArray w Q (l.drop n)) 0 (l.take n) [] a) : (Code.region id l.toArray true).wp P Q a w := by
 simp only [mkB, Bool.and_eq_true, decide_eq_true_eq] at hB
 obtain ⟨⟨⟨⟨hsel, hn⟩, hz⟩, hb⟩, hlex⟩ := hB
 have hn' : n ≤ l.length := by simpa using hn
 have htl : (l.take n).length = n := by simp; omega
 have hdl : (l.drop n).length = l.toArray.size - n := by simp
 have inv0 : HeadInv .any l.toArray n (Array.replicate l.toArray.size false) :=
  ⟨by simp, fun j oj _ hl => (by rw [getD_replicate_false] at hl; cases hl), fun t _ ht => getD_in (by simpa using ht) (getD_replicate_false _ _)⟩
 have hgot : Got w [] { w with drawn := w.drawn + 1 } := ⟨(Below.refl _ w).drew, trivial, List.Pairwise.nil, fun p hp => by cases hp⟩
 have H := xp (z := z) (g := l.toArray.size - n) Then.anti hsel hb (l.take n) 0 _ _ a ⟨_, hgot⟩ (fun j hj => by
  have hj' : j < n := by rw [htl] at hj; exact hj
  simp [hj']) (by simpa using htl) inv0 (by rw [htl]; exact hlex) h
 refine wp_region_any hm ?_
 have := o7 (Q' := Q) (g := l.toArray.size - n) hsel hz (fun o ho => hQ o (by simpa using ho)) (fun listed I a' x hg hL => by
  have := wpAny_of_seq (md := .any) (Q' := Q) (l.drop n) n listed a' x (fun j => by simp [List.getElem?_drop]) (by rw [hdl]; exact hL.1) (hL.2 x hg.b hg.f hg.dis hg.ord)
  rwa [hdl] at this) _ _ _ _ { w with drawn := w.drawn + 1 } hgot H
 rw [htl, show n + (l.toArray.size - n) = l.toArray.size by omega] at this
 exact this
section
variable {P : Program} {ops : Array Oper} {w0 : World} {σ : Nat → Option Mkg} {L : Kt} {I : List Ent} {a : Act}
theorem iy (m : Nat) : ∀ (k : Nat) (l : List Oper) (a : Act), ((List.range m).all fun i => (σ (k + i)).isNone) = true → (l.take m).all yx = true →
 wpQuiet P ops (fun w' => ∃ x : BW w0, w' = x.wd) (fun a' => Gh P ops w0 σ L (k + m) (l.drop m) I a') (l.take m) a → Gh P ops w0 σ L k l I a := by
 induction m with
 | zero => intro k l a _ _ h; simpa [wpQuiet] using h
 | succ m ih =>
  intro k l a hn hv h
  cases l with
  | nil => simpa [wpQuiet, Gh] using h
  | cons o l =>
   simp only [List.take_succ_cons, List.all_cons, Bool.and_eq_true, List.drop_succ_cons] at hv h
   have h0 : σ k = none := by
    have := List.all_eq_true.1 hn 0 (by simp)
    simpa using this
   have hn' : ((List.range m).all fun i => (σ (k + 1 + i)).isNone) = true := by
    rw [List.all_eq_true]
    intro i hi
    have := List.all_eq_true.1 hn (i + 1) (by simpa using hi)
    rw [show k + 1 + i = k + (i + 1) by omega]
    exact this
   rw [show k + (m + 1) = k + 1 + m by omega] at h
   unfold wpQuiet at h
   by_cases hw : Region.wanted o (yielded ops a.tmps) = true
   ·simp only [hw, if_true] at h
    obtain ⟨v, hq, hk⟩ := h
    refine ⟨fun _ => ?_, fun v' J hv' _ => ?_⟩
    ·rw [h0]; exact ⟨hv.1, v, hq⟩
    ·unfold Outc at hv'
     simp only [hw, if_true, h0] at hv'
     obtain ⟨hq', rfl⟩ := hv'
     have e : v' = v := by
      have h1 := hq w0 ⟨⟨w0, Below.refl _ _⟩, rfl⟩
      have h2 := hq' w0 ⟨⟨w0, Below.refl _ _⟩, rfl⟩
      unfold Oper.quietAt at h1 h2
      generalize hr : (execOp a.eval o).run P w0 = r at h1 h2
      cases r with
      | ok n w' =>
       cases n <;> simp only [Oper.quietUpon] at h1 h2
       case value u => exact h2.2.symm.trans h1.2
       case skip => exact h2.2.trans h1.2.symm
       case enter f args => exact absurd hr (og hv.1 _)
      | halt y w' => simp only [Oper.quietUpon] at h1
     subst e
     exact ih (k + 1) l _ hn' hv.2 hk
   ·simp only [hw] at h
    refine ⟨fun h' => absurd h' hw, fun v' J hv' _ => ?_⟩
    unfold Outc at hv'
    simp only [hw] at hv'
    obtain ⟨rfl, rfl⟩ := hv'
    exact ih (k + 1) l _ hn' hv.2 h
theorem ma {k : Nat} {o : Oper} {l : List Oper} (s : Mkg) (d : Tmp) (hσ : σ k = some s) (hd : o.dst = some d) (hda : d < a.tmps.size)
 (hr : ∀ x : BW w0, Dn ops k I x.wd → wpList P ops (fun ex a' x' => ex = .normal ∧ ∃ v, a' = a.put o.dst v ∧ rz s (jt o a) x.wd v x') [o] a x.wd) (hg : o.guard = none)
 (h : ∀ v b e, s.Y (jt o a) v → Gh P ops w0 σ L (k + 1) l (R9 k s (jt o a) v b e :: I) (a.put o.dst v)) : Gh P ops w0 σ L k (o :: l) I a := by
 have hw : Region.wanted o (yielded ops a.tmps) = true := by simp [Region.wanted, hg]
 have inj : ∀ {u v : Value}, a.put o.dst u = a.put o.dst v → u = v := fun {u v} he => by
  rw [hd] at he
  simp only [Act.put] at he
  have h1 : a.tmps.setIfInBounds d u = a.tmps.setIfInBounds d v := congrArg Act.tmps he
  have h2 := congrArg (fun t : Array Value => t[d]?) h1
  simpa [hda] using h2
 refine ⟨fun _ => ?_, fun v J hv _ => ?_⟩
 ·rw [hσ]
  rintro _ ⟨x, rfl⟩ hn
  have h1 := hr x hn
  unfold wpList at h1
  rw [if_pos hw] at h1
  rcases h1 with h1 | ⟨_, _, _, h1, _⟩
  ·unfold Oper.wp at h1
   generalize (execOp a.eval o).run P x.wd = r at h1 ⊢
   cases r with
   | ok n w' =>
    cases n <;> simp only [Oper.upon, wpList] at h1 <;> simp only [jb]
    case value u => obtain ⟨-, v, he, hgv⟩ := h1; rw [inj he]; exact hgv
    case skip => obtain ⟨-, v, he, hgv⟩ := h1; rw [inj he]; exact hgv
    case defer dd =>
     obtain ⟨-, v, he, hgv⟩ := h1
     rw [hd] at he
     have := congrArg Act.defers he
     simp [Act.put] at this
    case enter f args =>
     refine h1.mono fun e w'' hr => ?_
     cases e with
     | returned u => obtain ⟨-, v, he, hgv⟩ := hr; exact ⟨u, rfl, by rw [inj he]; exact hgv⟩
     | panicked c => cases hr.1
     | outgrown => obtain ⟨_, _, h, _⟩ := hr; cases h
    case row r args => exact h1.mono fun u w'' hr => by obtain ⟨-, v, he, hgv⟩ := hr; rw [inj he]; exact hgv
   | halt y w' => cases y <;> simp only [Oper.upon] at h1; cases h1.1
  ·cases h1
 ·unfold Outc at hv
  simp only [hw, if_true, hσ] at hv
  obtain ⟨hy, b, e, rfl⟩ := hv
  exact h v b e hy
end
end Go.Proofs.YtdiiggpohcjppaaGreat
