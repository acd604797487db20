/- Regions that draw their order, whose stores come last: loads are taken first, under facts that hold till the stores begin. No program in sight. -/
import Derived.Test.YtfknckinfcicbaaGreatCJn7
import Derived.OrdersHeld
import Derived.Deep.RegionHeld
set_option linter.unusedSimpArgs false
set_option linter.unusedVariables false
namespace Go.Proofs.YtfknckinfcicbaaGreat
open Go
def sk (n1:Nat) (listed:Array Bool):Bool:=(List.range n1).all fun i=>listed.getD i true
section
variable {P:Program} {ops:Array Oper} {Q:Exit → Act → World → Prop} {md:Region.Mode} {S:World → Prop} {n1:Nat}
def ge (P:Program) (md:Region.Mode) (ops:Array Oper) (Q:Exit → Act → World → Prop) (S:World → Prop) (n1:Nat):Nat → Array Bool → Act → World → Prop
 | 0,listed,a,w=>wpAny P md ops Q 0 listed a w
 | fuel + 1,listed,a,w=>if sk n1 listed = true then wpAny P md ops Q (fuel + 1) listed a w else
  (Region.ready md ops listed = [] → Q .normal a w) ∧
  ∀ i ∈ Region.ready md ops listed,wpOp P ops Q i (fun a' w'=>S w' ∧ ge P md ops Q S n1 fuel (listed.setIfInBounds i true) a' w') a w
theorem Bc:∀ (fuel:Nat) (listed:Array Bool) (a:Act) (w:World),ge P md ops Q S n1 fuel listed a w → wpAny P md ops Q fuel listed a w
 | 0,_,_,_,h=>h
 | fuel + 1,listed,a,w,h=>by
  unfold ge at h;split at h
  ·exact h
  ·exact ⟨h.1,fun i hi=>wpOp_mono (fun a' w' h'=>Bc fuel _ a' w' h'.2) (h.2 i hi)⟩
theorem yh {i:Nat} {listed:Array Bool} (hi:i < n1) (h:listed.getD i true = false):sk n1 listed = false:=by
 rw [← Bool.not_eq_true];intro hd;have:=List.all_eq_true.1 hd i (by simpa using hi);rw [h] at this; cases this
theorem jc {j:Nat} {listed:Array Bool} (h:j ∈ Region.ready md ops listed):listed.getD j true = false:=by
 unfold Region.ready at h;have:=(List.mem_filter.1 h).2;simp only [Bool.and_eq_true,Bool.not_eq_true'] at this;exact this.1
theorem Fy {i:Nat} {oi:Oper} {v:Value} (hi:ops[i]? = some oi) (hsel:∀ (j:Nat) (o:Oper) cs b,ops[j]? = some o → o.op ≠ .select cs b)
 (hQ:∀ c a w,Q (.panic c) (a.put oi.dst v) w → Q (.panic c) a w) (hin:i < n1) (hsz:ops.size = (ops.size))
 (hph:∀ (j:Nat) (oj:Oper),ops[j]? = some oj → n1 ≤ j → ∃ e ∈ oj.after,Region.binds md e = true ∧ e.on = i) :
 ∀ (fuel:Nat) (listed:Array Bool) (a:Act) (w:World),
  (∀ j oj,ops[j]? = some oj → j ≠ i → listed.getD j true = false → (∀ e ∈ oj.after,Region.binds md e = true → e.on ≠ i) → oi.apart ops oj = true) →
  i ∈ Region.ready md ops listed → YieldsIf P ops S oi v a → S w →
  ge P md ops Q S n1 fuel (listed.setIfInBounds i true) (a.put oi.dst v) w → ge P md ops Q S n1 (fuel + 1) listed a w:=by
 intro fuel
 have early:∀ (listed:Array Bool) (j:Nat),i ∈ Region.ready md ops listed → j ∈ Region.ready md ops listed → j < n1:=by
  intro listed j hr hj
  rcases Nat.lt_or_ge j n1 with h | h
  ·exact h
  ·obtain ⟨hjun,oj,hoj,hall⟩:=mem_ready.1 hj;obtain ⟨e,he,hb,heq⟩:=hph j oj hoj h;have h1:=hall e he hb;have h0:=jc hr;rw [heq] at h1
   rcases Nat.lt_or_ge i listed.size with h' | h'
   ·simp [h'] at h0 h1; rw [h0] at h1; cases h1
   ·simp [Array.getElem?_eq_none h'] at h1
 induction fuel with
 | zero =>
  intro listed a w _ hr hy hS H;unfold ge;rw [if_neg (by rw [yh hin (jc hr)]; simp)];refine ⟨fun h=>(by rw [h] at hr; cases hr),fun j hj=>?_⟩
  by_cases hji:j = i
  ·subst hji; exact hy.wpOp hi hS ⟨hS,H⟩
  ·have:=ready_mono hj hji;unfold ge wpAny at H;rw [H.1] at this;cases this
 | succ fuel ih =>
  intro listed a w hfree hr hy hS H;unfold ge;rw [if_neg (by rw [yh hin (jc hr)]; simp)];refine ⟨fun h=>(by rw [h] at hr; cases hr),fun j hj=>?_⟩
  by_cases hji:j = i
  ·subst hji; exact hy.wpOp hi hS ⟨hS,H⟩
  ·have hj1:=early listed j hr hj;have hjr:=ready_mono hj hji;unfold ge at H;rw [if_neg (by rw [yh hj1 (jc hjr)]; simp)] at H;have h1:=H.2 j hjr;obtain ⟨hjun,oj,hoj,hall⟩:=mem_ready.1 hj
   have hnot:∀ e ∈ oj.after,Region.binds md e = true → e.on ≠ i:=fun e he hb heq=>by
    have h1:=hall e he hb;have h0:=(mem_ready.1 hr).1;rw [heq] at h1
    rcases Nat.lt_or_ge i listed.size with h' | h'
    ·simp [h'] at h0 h1; rw [h0] at h1; cases h1
    ·simp [Array.getElem?_eq_none h'] at h1
   have h2:=wpOp_putIf hoj (hfree j oj hoj hji hjun hnot) (fun cs b=>hsel i oi cs b hi) (fun cs b=>hsel j oj cs b hoj) hQ hy h1
   have hfree':∀ k ok,ops[k]? = some ok → k ≠ i → (listed.setIfInBounds j true).getD k true = false →
    (∀ e ∈ ok.after,Region.binds md e = true → e.on ≠ i) → oi.apart ops ok = true:=fun k ok hk hki hun hno=>by
    refine hfree k ok hk hki ?_ hno
    by_cases hjk:j = k
    ·subst hjk; exact hjun
    ·rw [getD_set_ne true hjk] at hun; exact hun
   refine wpOp_mono (fun a' w' h3=>⟨h3.2.1,ih (listed.setIfInBounds j true) a' w' hfree' (ready_mono hr (Ne.symm hji)) h3.1 h3.2.1 ?_⟩) h2;rw [Array.setIfInBounds_comm _ _ hji];exact h3.2.2
def Nr (md:Region.Mode) (n1 i:Nat) (ops:Array Oper):Bool:=(List.range ops.size).all fun j=>decide (j < n1) || ((ops[j]?).map fun o=>o.after.any fun e=>Region.binds md e && e.on == i).getD true
theorem Gf {i:Nat} (h:Nr md n1 i ops = true) (j:Nat) (oj:Oper) (ho:ops[j]? = some oj) (hj:n1 ≤ j):∃ e ∈ oj.after,Region.binds md e = true ∧ e.on = i:=by
 have hlt:=(Array.getElem?_eq_some_iff.1 ho).1;have:=List.all_eq_true.1 h j (by simpa using hlt);simp only [ho,Option.map_some,Option.getD_some,Bool.or_eq_true,decide_eq_true_eq] at this
 rcases this with h1 | h1
 ·omega
 ·rw [Array.any_eq_true] at h1;obtain ⟨k,hk,h2⟩:=h1;simp only [Bool.and_eq_true,beq_iff_eq] at h2;exact ⟨_,Array.getElem_mem hk,h2.1,h2.2⟩
theorem iw {i:Nat} {oi:Oper} {v:Value} {fuel:Nat} {listed:Array Bool} {a:Act} {w:World} (hi:ops[i]? = some oi)
 (hs:Region.noSelect ops = true) (hf:Region.free md ops listed i = true) (hr:(Region.ready md ops listed).contains i = true) (hin:i < n1) (hp:Nr md n1 i ops = true)
 (hQ:∀ c a w,Q (.panic c) (a.put oi.dst v) w → Q (.panic c) a w) (hy:YieldsIf P ops S oi v a) (hS:S w)
 (h:ge P md ops Q S n1 fuel (listed.setIfInBounds i true) (a.put oi.dst v) w):ge P md ops Q S n1 (fuel + 1) listed a w :=
 Fy hi (Region.noSelect_spec hs) hQ hin rfl (Gf hp) fuel listed a w (Region.free_spec hi hf) (by simpa using hr) hy hS h
theorem Pa {fuel:Nat} {listed:Array Bool} {a:Act} {w:World} (hd:sk n1 listed = true) (h:wpAny P md ops Q fuel listed a w):ge P md ops Q S n1 fuel listed a w:=by
 cases fuel with
 | zero=>exact h
 | succ fuel=>unfold ge; rw [if_pos hd]; exact h
def AllReadyP (P:Program) (md:Region.Mode) (ops:Array Oper) (Q:Exit → Act → World → Prop) (S:World → Prop) (n1:Nat) (fuel:Nat) (listed:Array Bool) (a:Act) (w:World) (rs:List Nat):Prop :=
 ∀ i ∈ rs,wpOp P ops Q i (fun a' w'=>S w' ∧ ge P md ops Q S n1 fuel (listed.setIfInBounds i true) a' w') a w
theorem AllReadyP.nil {fuel:Nat} {listed:Array Bool} {a:Act} {w:World}:AllReadyP P md ops Q S n1 fuel listed a w []:=fun _ h=>by cases h
theorem AllReadyP.cons {fuel:Nat} {listed:Array Bool} {a:Act} {w:World} {i:Nat} {o:Oper} {rs:List Nat} (ho:ops[i]? = some o)
 (h:∀ K':Act → World → Prop,Shut (∀ a w,S w → (S w → ge P md ops Q S n1 fuel (listed.setIfInBounds i true) a w) → K' a w) → if Region.wanted o (yielded ops a.tmps) = true then Oper.wp P o a w K' Q else K' (a.put o.dst undef) w)
 (hs:AllReadyP P md ops Q S n1 fuel listed a w rs):AllReadyP P md ops Q S n1 fuel listed a w (i :: rs):=fun j hj=>by
 rcases List.mem_cons.1 hj with rfl | hj
 ·exact wpOp_step ho (fun K' hK=>h K' (fun a w hS hW=>hK a w ⟨hS,hW hS⟩))
 ·exact hs j hj
theorem vu {rs:List Nat} {fuel:Nat} {listed:Array Bool} {a:Act} {w:World} (hr:Region.ready md ops listed = rs) (hne:rs ≠ []) (hd:sk n1 listed = false)
 (h:AllReadyP P md ops Q S n1 fuel listed a w rs):ge P md ops Q S n1 (fuel + 1) listed a w:=by
 unfold ge;rw [if_neg (by rw [hd]; simp)];exact ⟨fun h0=>absurd (hr ▸ h0) hne,hr ▸ h⟩
end
end Go.Proofs.YtfknckinfcicbaaGreat
