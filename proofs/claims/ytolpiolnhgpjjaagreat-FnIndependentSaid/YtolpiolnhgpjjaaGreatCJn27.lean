/- Parts of the proof. -/
import Derived.Test.YtolpiolnhgpjjaaGreatCJn22
import Derived.Test.YtolpiolnhgpjjaaGreatCJn24
import Derived.Test.YtolpiolnhgpjjaaGreatCDt
import Derived.Test.YtolpiolnhgpjjaaGreatCNw3
set_option linter.unusedSimpArgs false
set_option linter.unusedVariables false
namespace Go.Proofs.YtolpiolnhgpjjaaGreat
section
open Go Go.RowKit
theorem gn {t2 : TypeId} {ess : List (List (Int × Int))} {k : Nat} (h : k < ess.length) : cq (ess.map (esC t2)) k 0 = some (.sl true t2 2 ((gl ess k).map eC)) := b9.2 ⟨_, by rw [List.getElem?_map, List.getElem?_eq_getElem h]; rfl, by rw [esC, ma h]; rfl⟩
theorem xu (n : Nat) (hn : n ≤ 1000) : DCalls Tryz.prog 178 [.c (.p (.int .i64 n))] (fun r => r = [.own true (netO (fg n))]) := Em fun w vs h1 h2 => by
 obtain ⟨u, rfl, g1⟩ := Ey h1 h2;rw [yn g1];exact H7 n w (by omega)
theorem Fa {t2 : TypeId} {ess : List (List (Int × Int))} {k : Nat} {y : C} (h : k < ess.length) : cq ((ess.map (esC t2)).modify k fun row => row.modify 0 fun _ => y) k 0 = some y := b9.2 ⟨[y], by simp [List.getElem?_modify, List.getElem?_eq_getElem h, esC], rfl⟩
theorem Ah {t2 : TypeId} {ess : List (List (Int × Int))} {k : Nat} {es : List (Int × Int)} : ((((ess.map (esC t2)).modify k fun row => row.modify 0 fun _ => C.hole).modify k fun row => row.modify 0 fun _ => C.hole).modify k fun row => row.modify 0 fun _ => C.sl true t2 2 (es.map eC)) = (ess.set k es).map (esC t2) := by
 apply List.ext_getElem?;intro i;simp only [List.getElem?_modify, List.getElem?_map, List.getElem?_set]
 by_cases h : k = i
 ·subst h
  by_cases hk : k < ess.length
  ·simp [List.getElem?_eq_getElem hk, hk, esC]
  ·simp [List.getElem?_eq_none (Nat.le_of_not_lt hk), hk]
 ·simp [h]
end
section
open Go Go.RowKit
def lg (L : List (List Int)) (k : Nat) : List Int := L.getD k []
theorem Ve {L : List (List Int)} {k : Nat} (h : k < L.length) : lg L k = L[k] := by simp [lg, h]
theorem dk {t : TypeId} {L : List (List Int)} {k : Nat} (h : k < L.length) : cq (L.map (lsC t)) k 0 = some (.sl true t 1 ((lg L k).map iC)) := b9.2 ⟨_, by rw [List.getElem?_map, List.getElem?_eq_getElem h]; rfl, by rw [lsC, Ve h]; rfl⟩
theorem cl {t : TypeId} {L : List (List Int)} {k : Nat} (h : k < L.length) : (L.map (lsC t)).getD k [] = [.sl true t 1 ((lg L k).map iC)] := by
 rw [List.getD_eq_getElem?_getD, List.getElem?_map, List.getElem?_eq_getElem h, Ve h]; rfl
def Env.ros (e : Env) (r : Nat) (c : C) : Env := { e with s := fun x => if x = r then .c c else e.s x }
theorem Qw (e : Env) (r : Nat) (c : C) : (e.ros r c).n = e.n := rfl
theorem Mc (e : Env) (r : Nat) (c : C) (x : Nat) : (e.ros r c).s x = if x = r then .c c else e.s x := rfl
theorem Fe (e : Env) (r : Nat) (c : C) (k : bu) : (e.ros r c).con k = e.con k := rfl
theorem Fd (e : Env) (r : Nat) (c : C) (x : Nat) : (e.ros r c).gen x = e.gen x := rfl
theorem xm (e : Env) (r : Nat) (c : C) (x : Nat) : (e.ros r c).dirty x = e.dirty x := rfl
theorem Qc {e : Env} {r : Nat} {t : TypeId} {k : Nat} {rows : List (List C)} (hs : e.s r = .own false 1) (hc : e.con (r, 0) = some ⟨none, [.sl false t k rows]⟩) : Weak e (e.ros r (.sl false t k rows)) := fun w0 a w ⟨val, S, h⟩ => by
 refine ⟨val, S, h.sz, h.defers, h.mem, fun x => ?_, h.frm, h.low, h.rts, h.sS⟩;rw [Mc];split
 ·rename_i hx
  subst hx;have h1 := h.slot x;rw [hs] at h1;obtain ⟨-, -, hv⟩ := h1;have h2 := h.mem.node (x, 0) _ [(0, 0)] _ hc (db _ 0);show RO w S _ _;rw [hv];exact h2
 ·exact h.slot x
theorem K7 {P : Program} {w0 : Base} {y : Code} {Q : Exit → Env → Prop} {n : Nat} {Sl : List (Nat × AV)} {Cn : List (bu × Con)} {sl2 : List (Nat × AV)} {cn2 : List (bu × Con)} (r : Nat) (ks : List Nat) {o : Bool} {t : TypeId} {k : Nat} {rows : List (List C)}
 (hs : (mkE n Sl Cn).s r = .own false 1) (hc : (mkE n Sl Cn).con (r, 0) = some ⟨none, [.sl o t k rows]⟩)
 (h2 : keepE (((mkE n Sl Cn).frz r).ros r (.sl false t k rows)) ks = mkE n sl2 cn2) (hd : DW P w0 y Q (mkE n sl2 cn2)) : DW P w0 y Q (mkE n Sl Cn) :=
 jx (vt _ r) (jx (Qc (by rw [Vg]; exact hs) (by rw [Ag, if_pos rfl, hc]; rfl)) (jx (co _ ks) (by rw [h2]; exact hd)))
section
variable {P : Program} {w0 : Base} {e e1 : Env} {a : Act} {w : World} {val : Val} {S : Nat → Prop}
theorem StV.less (h : StV w0 e a w val S) (hn : e1.n = e.n) (hs : e1.s = e.s) (hc : e1.con = e.con) (hg : e1.gen = e.gen) (hf : ∀ r g p, e1.fresh r g p → e.fresh r g p) : StV w0 e1 a w val S :=
 { sz := by rw [hn]; exact h.sz
   defers := h.defers
   mem := by rw [hc]; exact h.mem
   slot := fun s => by
    have h1 := h.slot s;rw [hs]
    cases hav : e.s s with
    | dead => trivial
    | c x => rw [hav] at h1; exact h1
    | agg xs => rw [hav] at h1; exact h1
    | own ag n => rw [hav] at h1; unfold SV; rw [hc]; exact h1
    | box => rw [hav] at h1; unfold SV; rw [hc]; exact h1
    | ref r g p ag n => rw [hav] at h1; exact ⟨by rw [hg]; exact h1.1, fun h2 => h1.2 fun i hi => hf _ _ _ (h2 i hi)⟩
    | ptr r g p k => rw [hav] at h1; exact ⟨by rw [hg]; exact h1.1, fun h2 => h1.2 (hf _ _ _ h2)⟩
    | rp xs => rw [hav] at h1; exact h1
    | fn g css => rw [hav] at h1; exact h1
    | clo g rs =>
     rw [hav] at h1;obtain ⟨vs, k1, k2, k3⟩ := h1;exact ⟨vs, k1, k2, fun i r g' hi => ⟨by rw [hg]; exact (k3 i r g' hi).1, fun h2 => (k3 i r g' hi).2 (hf _ _ _ h2)⟩⟩
    | tup ts => rw [hav] at h1; unfold SV; rw [hc]; exact h1
   frm := h.frm
   low := by rw [hc]; exact h.low
   rts := fun s hs' => h.rts s (by rw [← hn]; exact hs')
   sS := h.sS }
end
end
end Go.Proofs.YtolpiolnhgpjjaaGreat
