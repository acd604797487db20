/- Parts of the proof, joined: Rws, Dls. -/
import Derived.Test.YtdiiggpohcjppaaGreatCJn22
import Derived.Test.YtdiiggpohcjppaaGreatCJn25
import Derived.Test.YtdiiggpohcjppaaGreatCDt
import Derived.Test.YtdiiggpohcjppaaGreatCNw3
set_option linter.unusedSimpArgs false
set_option linter.unusedVariables false
namespace Go.Proofs.YtdiiggpohcjppaaGreat
section
open Go Go.RowKit
theorem dw {t2 : TypeId} {ess : List (List (Int × Int))} {k : Nat} (h : k < ess.length) : b8 (ess.map (esC t2)) k 0 = some (.sl true t2 2 ((gl ess k).map eC)) := bh.2 ⟨_, by rw [List.getElem?_map, List.getElem?_eq_getElem h]; rfl, by rw [esC, ge h]; rfl⟩
theorem wq (n : Nat) (hn : n ≤ 1000) : DCalls Tryz.prog 141 [.c (.p (.int .i64 n))] (fun r => r = [.own true (netO (ej n))]) := xk fun w vs h1 h2 => by
 obtain ⟨u, rfl, g1⟩ := Bx h1 h2
 rw [Cq g1]
 exact Hi n w (by omega)
theorem ij {t2 : TypeId} {ess : List (List (Int × Int))} {k : Nat} {y : C} (h : k < ess.length) : b8 ((ess.map (esC t2)).modify k fun row => row.modify 0 fun _ => y) k 0 = some y := bh.2 ⟨[y], by simp [List.getElem?_modify, List.getElem?_eq_getElem h, esC], rfl⟩
theorem q7 {t2 : TypeId} {ess : List (List (Int × Int))} {k : Nat} {es : List (Int × Int)} : ((((ess.map (esC t2)).modify k fun row => row.modify 0 fun _ => C.hole).modify k fun row => row.modify 0 fun _ => C.hole).modify k fun row => row.modify 0 fun _ => C.sl true t2 2 (es.map eC)) = (ess.set k es).map (esC t2) := by
 apply List.ext_getElem?
 intro i
 simp only [List.getElem?_modify, List.getElem?_map, List.getElem?_set]
 by_cases h : k = i
 ·subst h
  by_cases hk : k < ess.length
  ·simp [List.getElem?_eq_getElem hk, hk, esC]
  ·simp [List.getElem?_eq_none (Nat.le_of_not_lt hk), hk]
 ·simp [h]
end
section
open Go Go.RowKit
def lg (L : List (List Int)) (k : Nat) : List Int := L.getD k []
theorem Hm {L : List (List Int)} {k : Nat} (h : k < L.length) : lg L k = L[k] := by simp [lg, h]
theorem Lo (t : TypeId) (L : List (List Int)) (l : List Int) : L.map (lsC t) ++ [[C.sl true t 1 (l.map iC)]] = (L ++ [l]).map (lsC t) := by simp [lsC]
theorem fb {t : TypeId} {L : List (List Int)} {k : Nat} (h : k < L.length) : b8 (L.map (lsC t)) k 0 = some (.sl true t 1 ((lg L k).map iC)) := bh.2 ⟨_, by rw [List.getElem?_map, List.getElem?_eq_getElem h]; rfl, by rw [lsC, Hm h]; rfl⟩
theorem Wj {t : TypeId} {L : List (List Int)} {k : Nat} {y : C} (h : k < L.length) : b8 ((L.map (lsC t)).modify k fun row => row.modify 0 fun _ => y) k 0 = some y := bh.2 ⟨[y], by simp [List.getElem?_modify, List.getElem?_eq_getElem h, lsC], rfl⟩
theorem Ud {t : TypeId} {L : List (List Int)} {k : Nat} {l : List Int} : ((((L.map (lsC t)).modify k fun row => row.modify 0 fun _ => C.hole).modify k fun row => row.modify 0 fun _ => C.hole).modify k fun row => row.modify 0 fun _ => C.sl true t 1 (l.map iC)) = (L.set k l).map (lsC t) := by
 apply List.ext_getElem?
 intro i
 simp only [List.getElem?_modify, List.getElem?_map, List.getElem?_set]
 by_cases h : k = i
 ·subst h
  by_cases hk : k < L.length
  ·simp [List.getElem?_eq_getElem hk, hk, lsC]
  ·simp [List.getElem?_eq_none (Nat.le_of_not_lt hk), hk]
 ·simp [h]
theorem V1 (t : TypeId) (n : Nat) : List.replicate n [C.sl true t 1 []] = (List.replicate n []).map (lsC t) := by simp [lsC]
def nh (n : Nat) (f : Nat → List Int) : List (List Int) := (List.range n).map f
theorem kg (n : Nat) (f : Nat → List Int) : (nh n f).length = n := by simp [nh]
theorem sn {n k : Nat} {f : Nat → List Int} (h : k < n) : lg (nh n f) k = f k := by rw [Hm (by rw [kg]; exact h)]; simp [nh]
theorem C4 (n : Nat) (f : Nat → List Int) : nh (n + 1) f = nh n f ++ [f n] := by simp [nh, List.range_succ]
theorem dm {t : TypeId} {L : List (List Int)} {k : Nat} (h : k < L.length) : (L.map (lsC t)).getD k [] = [.sl true t 1 ((lg L k).map iC)] := by
 rw [List.getD_eq_getElem?_getD, List.getElem?_map, List.getElem?_eq_getElem h, Hm h]; rfl
def Env.ros (e : Env) (r : Nat) (c : C) : Env := { e with s := fun x => if x = r then .c c else e.s x }
theorem Gx (e : Env) (r : Nat) (c : C) : (e.ros r c).n = e.n := rfl
theorem Dd (e : Env) (r : Nat) (c : C) (x : Nat) : (e.ros r c).s x = if x = r then .c c else e.s x := rfl
theorem t8 (e : Env) (r : Nat) (c : C) (k : ba) : (e.ros r c).con k = e.con k := rfl
theorem t7 (e : Env) (r : Nat) (c : C) (x : Nat) : (e.ros r c).gen x = e.gen x := rfl
theorem ml (e : Env) (r : Nat) (c : C) (x : Nat) : (e.ros r c).dirty x = e.dirty x := rfl
theorem Pu {e : Env} {r : Nat} {t : TypeId} {k : Nat} {rows : List (List C)} (hs : e.s r = .own false 1) (hc : e.con (r, 0) = some ⟨none, [.sl false t k rows]⟩) : Weak e (e.ros r (.sl false t k rows)) := fun w0 a w ⟨val, S, h⟩ => by
 refine ⟨val, S, h.sz, h.defers, h.mem, fun x => ?_, h.frm, h.low, h.rts, h.sS⟩
 rw [Dd]
 split
 ·rename_i hx
  subst hx
  have h1 := h.slot x
  rw [hs] at h1
  obtain ⟨-, -, hv⟩ := h1
  have h2 := h.mem.node (x, 0) _ [(0, 0)] _ hc (cr _ 0)
  show RO w S _ _
  rw [hv]
  exact h2
 ·exact h.slot x
theorem Bo {P : Program} {w0 : Base} {y : Code} {Q : Exit → Env → Prop} {n : Nat} {Sl : List (Nat × AV)} {Cn : List (ba × Con)} {sl2 : List (Nat × AV)} {cn2 : List (ba × Con)} (r : Nat) (ks : List Nat) {o : Bool} {t : TypeId} {k : Nat} {rows : List (List C)}
 (hs : (mkE n Sl Cn).s r = .own false 1) (hc : (mkE n Sl Cn).con (r, 0) = some ⟨none, [.sl o t k rows]⟩)
 (h2 : keepE (((mkE n Sl Cn).frz r).ros r (.sl false t k rows)) ks = mkE n sl2 cn2) (hd : DW P w0 y Q (mkE n sl2 cn2)) : DW P w0 y Q (mkE n Sl Cn) :=
 f8 (zh _ r) (f8 (Pu (by rw [Vv]; exact hs) (by rw [zb, if_pos rfl, hc]; rfl)) (f8 (cp _ ks) (by rw [h2]; exact hd)))
section
variable {P : Program} {w0 : Base} {e e1 : Env} {a : Act} {w : World} {val : Val} {S : Nat → Prop}
theorem StV.less (h : StV w0 e a w val S) (hn : e1.n = e.n) (hs : e1.s = e.s) (hc : e1.con = e.con) (hg : e1.gen = e.gen) (hf : ∀ r g p, e1.fresh r g p → e.fresh r g p) : StV w0 e1 a w val S :=
 { sz := by rw [hn]; exact h.sz
   defers := h.defers
   mem := by rw [hc]; exact h.mem
   slot := fun s => by
    have h1 := h.slot s
    rw [hs]
    cases hav : e.s s with
    | dead => trivial
    | c x => rw [hav] at h1; exact h1
    | agg xs => rw [hav] at h1; exact h1
    | own ag n => rw [hav] at h1; unfold SV; rw [hc]; exact h1
    | box => rw [hav] at h1; unfold SV; rw [hc]; exact h1
    | ref r g p ag n => rw [hav] at h1; exact ⟨by rw [hg]; exact h1.1, fun h2 => h1.2 fun i hi => hf _ _ _ (h2 i hi)⟩
    | ptr r g p k => rw [hav] at h1; exact ⟨by rw [hg]; exact h1.1, fun h2 => h1.2 (hf _ _ _ h2)⟩
    | rp xs => rw [hav] at h1; exact h1
    | fn g css => rw [hav] at h1; exact h1
    | clo g rs =>
     rw [hav] at h1
     obtain ⟨vs, k1, k2, k3⟩ := h1
     exact ⟨vs, k1, k2, fun i r g' hi => ⟨by rw [hg]; exact (k3 i r g' hi).1, fun h2 => (k3 i r g' hi).2 (hf _ _ _ h2)⟩⟩
    | tup ts => rw [hav] at h1; unfold SV; rw [hc]; exact h1
   frm := h.frm
   low := by rw [hc]; exact h.low
   rts := fun s hs' => h.rts s (by rw [← hn]; exact hs')
   sS := h.sS }
end
def wn (T k m j : Nat) : List (List C) := List.replicate j [.sl true T k []] ++ List.replicate (m - j) [.p (.slice none 0 0)]
theorem T8 {T k m j : Nat} (h : j < m) : b8 (wn T k m j) j 0 = some (.p (.slice none 0 0)) := bh.2 ⟨[.p (.slice none 0 0)], by
 unfold wn
 rw [List.getElem?_append_right (by simp), List.length_replicate, Nat.sub_self, List.getElem?_replicate, if_pos (by omega)], rfl⟩
theorem Nz {T k m j : Nat} (h : j < m) : ((wn T k m j).modify j fun row => row.modify 0 fun _ => C.sl true T k []) = wn T k m (j + 1) := by
 apply List.ext_getElem?
 intro i
 unfold wn
 rw [List.getElem?_modify]
 by_cases hi : j = i
 ·subst hi
  rw [List.getElem?_append_right (by simp), List.length_replicate, Nat.sub_self, List.getElem?_replicate, if_pos (by omega), List.getElem?_append_left (by simp), List.getElem?_replicate, if_pos (by omega)]
  simp
 ·rcases Nat.lt_or_ge i j with h1 | h1
  ·rw [List.getElem?_append_left (by simp; omega), List.getElem?_append_left (by simp; omega), List.getElem?_replicate, List.getElem?_replicate, if_pos h1, if_pos (by omega)]
   simp [hi]
  ·rw [List.getElem?_append_right (by simp; omega), List.getElem?_append_right (by simp; omega), List.getElem?_replicate, List.getElem?_replicate, List.length_replicate, List.length_replicate]
   by_cases h2 : i < m
   ·rw [if_pos (by omega), if_pos (by omega)]; simp [hi]
   ·rw [if_neg (by omega), if_neg (by omega)]; simp
theorem At {e : Env} {r i T k t2 m : Nat} {cn : Con} (hk : 0 < k) (hc : e.con (r, 0) = some cn) (hl : cn.xs[i]? = some (.sl true t2 1 (List.replicate m [.p (.slice none 0 0)]))) : ∀ j, j ≤ m → ∃ E, Weak e E ∧ E.n = e.n ∧ E.s = e.s ∧ (∀ key, key ≠ (r, 0) → E.con key = e.con key) ∧ E.con (r, 0) = some { cn with xs := puts cn.xs (.sl true t2 1 (wn T k m j)) [(0, i)] } ∧ E.gen = e.gen ∧ (∀ x, x ≠ r → E.dirty x = e.dirty x) ∧ (∀ d ∈ E.dirty r, d ∈ e.dirty r ∨ [(0, i)] <+: d)
 | 0, _ => by
  refine ⟨e, Weak.refl e, rfl, rfl, fun _ _ => rfl, ?_, rfl, fun _ _ => rfl, fun _ h => .inl h⟩
  rw [hc]
  have : puts cn.xs (.sl true t2 1 (wn T k m 0)) [(0, i)] = cn.xs := by
   apply List.ext_getElem?
   intro q
   simp only [puts, List.getElem?_modify, C.put, wn, List.replicate_zero, List.nil_append, Nat.sub_zero]
   by_cases hq : i = q
   ·subst hq; rw [hl]; simp
   ·simp [hq]
  rw [this]
 | j + 1, hj => by
  obtain ⟨E, g1, g2, g3, g4, g5, g6, g7, g8⟩ := At hk hc hl j (by omega)
  have hlook : look (puts cn.xs (.sl true t2 1 (wn T k m j)) [(0, i)]) [(0, i)] = some (.sl true t2 1 (wn T k m j)) := by
   rw [cr]; simp [puts, List.getElem?_modify, hl, C.put]
  have hl2 : look (puts cn.xs (.sl true t2 1 (wn T k m j)) [(0, i)]) ([(0, i)] ++ [(j, 0)]) = some (.p (.slice none 0 0)) :=
   (em (by simp)).2 ⟨t2, 1, _, hlook, T8 (by omega)⟩
  have hw := zg (T := T) (k := k) g5 hl2 hk
  refine ⟨_, g1.trans hw, g2, g3, fun key hkey => by simp [Env.put, hkey, g4 key hkey], ?_, g6, fun x hx => by simp [Env.put, hx, g7 x hx], fun d hd => ?_⟩
  ·simp only [Env.put, if_true, g5, Option.map_some]
   congr 2
   apply List.ext_getElem?
   intro q
   simp only [puts, List.cons_append, List.nil_append, List.getElem?_modify]
   by_cases hq : i = q
   ·subst hq
    rw [hl]
    simp only [if_true, Option.map_eq_map, Option.map_some, C.put, Option.some.injEq, C.sl.injEq, true_and]
    exact Nz (by omega)
   ·simp [hq]
  ·simp only [Env.put, if_true] at hd
   rcases List.mem_cons.1 hd with rfl | hd
   ·exact .inr ⟨[(j, 0)], rfl⟩
   ·exact g8 d hd
theorem My {e : Env} {r i T k t2 m : Nat} {cn : Con} (hk : 0 < k) (hc : e.con (r, 0) = some cn) (hl : cn.xs[i]? = some (.sl true t2 1 (List.replicate m [.p (.slice none 0 0)]))) : Weak e (e.put r [(0, i)] (.sl true t2 1 (List.replicate m [.sl true T k []]))) := by
 obtain ⟨E, g1, g2, g3, g4, g5, g6, g7, g8⟩ := At (T := T) hk hc hl m (Nat.le_refl _)
 refine g1.trans fun w0 a w ⟨val, S, h⟩ => ⟨val, S, h.less g2.symm g3.symm ?_ g6.symm ?_⟩
 ·funext key
  by_cases hkey : key = (r, 0)
  ·subst hkey
   rw [g5]
   have : wn T k m m = List.replicate m [.sl true T k []] := by simp [wn]
   rw [this]
   simp [Env.put, hc]
  ·rw [g4 key hkey]; simp [Env.put, hkey]
 ·rintro x g p ⟨hx1, hx2⟩
  refine ⟨by rw [g6]; exact hx1, fun dd hd => ?_⟩
  by_cases hxr : x = r
  ·subst hxr
   rcases g8 dd hd with h3 | h3
   ·exact hx2 dd (by simp [Env.put, h3])
   ·intro h4
    exact hx2 [(0, i)] (by simp [Env.put]) (h3.trans h4)
  ·rw [g7 x hxr] at hd
   exact hx2 dd (by simp [Env.put, hxr, hd])
theorem Mj {P : Program} {w0 : Base} {y : Code} {Q : Exit → Env → Prop} {n : Nat} {Sl : List (Nat × AV)} {Cn : List (ba × Con)} {sl2 : List (Nat × AV)} {cn2 : List (ba × Con)} (r i T k : Nat) (hk : 0 < k) {t2 m : Nat} {cn : Con} (h : (mkE n Sl Cn).con (r, 0) = some cn) (hl : cn.xs[i]? = some (.sl true t2 1 (List.replicate m [.p (.slice none 0 0)]))) (ks : List Nat)
 (h2 : keepE ((mkE n Sl Cn).put r [(0, i)] (.sl true t2 1 (List.replicate m [.sl true T k []]))) ks = mkE n sl2 cn2) (hd : DW P w0 y Q (mkE n sl2 cn2)) : DW P w0 y Q (mkE n Sl Cn) :=
 f8 (My hk h hl) (f8 (cp _ ks) (by rw [h2]; exact hd))
theorem Mv (n : Nat) : fq [.slice none 0 0] n = List.replicate n [C.p (.slice none 0 0)] := by simp [fq]
theorem zes (t : TypeId) (n : Nat) : List.replicate n [C.sl true t 2 []] = (List.replicate n []).map (esC t) := by simp [esC]
end
end Go.Proofs.YtdiiggpohcjppaaGreat
