/- The numbers below the length of a list, sorted by what the list has there: two regions as one, over data. -/
import Derived.Test.YtolpiolnhgpjjaaGreatCJn34
import Derived.Test.YtolpiolnhgpjjaaGreatCJn29
import Derived.Test.YtolpiolnhgpjjaaGreatCJn38
import Derived.Test.YtolpiolnhgpjjaaGreatCJn24
set_option linter.unusedSimpArgs false
set_option linter.unusedVariables false
namespace Go.Proofs.YtolpiolnhgpjjaaGreat
open Go Go.RowKit
set_option maxRecDepth 100000 in
theorem Iz (x y : Nat) (dx dy : Int) (b o : Nat) (gd off n c : Nat) (w : World) (hb : w.cell? ⟨b, o, none⟩ = some (.slice (some ⟨gd, off, none⟩) n c)) (hx : x < n) (hy : y < n)
 (cx : w.cell? ⟨gd, off + x, none⟩ = some (.int .i64 dx)) (cy : w.cell? ⟨gd, off + y, none⟩ = some (.int .i64 dy)) (hd : 0 ≤ dx ∧ dx ≤ 1048576 ∧ 0 ≤ dy ∧ dy ≤ 1048576) :
 Calls Tryz.prog 80 #[.int .i64 x, .int .i64 y, .pointer (some ⟨b, o, none⟩)] w (RetD w (.int .i64 (dx - dy))) := by
 obtain ⟨d1, d2, d3, d4⟩ := hd;have hw1 : IntKind.i64.wrap (dx - dy) = dx - dy := IntWalk.i64_in _ (by omega);have i1 : (0 : Int) ≤ (x : Int) := by omega
 have i2 : (x : Int) < (n : Int) := by omega
 have i3 : (0 : Int) ≤ (y : Int) := by omega
 have i4 : (y : Int) < (n : Int) := by omega
 go_enter Tryz.func80, Tryz.ntmps80
 go_wp2
 go_quiet (fail)
 go_wp2
 go_ret
 exact ⟨rfl, _, rfl⟩
section
variable {P : Program} {w0 : Base} {e E1 : Env} {a : Act} {w : World} {o : Oper} {Qx : Exit → Act → World → Prop}
theorem U5 (h : opX P e.n o.dst o.op e = some E1) (hs : St w0 e a w) {K' : Act → World → Prop} (hk : ∀ a' w', St w0 E1 a' w' → K' a' w') : o.wp P a w K' Qx :=
 Oper.wp_mono (fun _ _ ⟨_, he, h1⟩ => hk _ _ (he ▸ h1)) (Bn P e.n o (fun _ _ _ _ => False) none e (fun x => x = E1) w0 a w Qx (fun _ _ _ _ h => h.elim) rfl (Vt h) hs)
end
theorem V3 (a : Act) (d d' : Nat) (v v' : Value) (h : d ≠ d') : (a.put (some d) v).put (some d') v' = (a.put (some d') v').put (some d) v := by
 simp only [Act.put];rw [Array.setIfInBounds_comm _ _ h]
theorem lr {P : Program} {ops : Array Oper} {Q : Exit → Act → World → Prop} {a : Act} {w : World} {i : Nat} {l : List Nat} {o : Oper} (ho : ops[i]? = some o) (hg : o.guard = none) (h : o.wp P a w (fun a' w' => wpOps P ops Q l a' w') Q) : wpOps P ops Q (i :: l) a w := by
 rw [wpOps_cons];unfold wpOp;rw [ho];dsimp only;rw [if_pos (by simp [Region.wanted, hg])];exact .inl h
set_option maxHeartbeats 4000000 in
theorem K9 {w0 : Base} {e E1 E2 : Env} {id5 id6 n : Nat} {t t0 : TypeId} {fl : Bool} {tys5 tys6 : Array TypeId} {o1 o2 o3 o4 q1 q2 q3 : Oper} {col : List Int} {rest : Code} {Q : Exit → Env → Prop} {r sN sV q7 qM qF qC : Nat}
 (hr : r < e.n) (h1 : opX Tryz.prog e.n o1.dst o1.op e = some E1) (g1 : o1.guard = none) (hn1 : E1.n = e.n) (h2 : opX Tryz.prog e.n o2.dst o2.op E1 = some E2) (g2 : o2.guard = none) (hn2 : E2.n = e.n)
 (h3 : o3.op = .call { callee := .value (.func 78), args := #[.tmp sN], argTypes := tys5 }) (h3d : o3.dst = some sV) (g3 : o3.guard = none) (h4 : o4.op = .assign (.tmp sV)) (h4d : o4.dst = some q7) (g4 : o4.guard = none)
 (hN : E2.s sN = .c (.p (.int .i64 (n : Nat)))) (hB : E2.s r = .box) (hC : E2.con (r, 0) = some ⟨some t0, [.sl fl t 1 (col.map iC)]⟩) (hcl : col.length = n) (hnp : 0 < n) (hn : n ≤ 1048576) (hcb : ∀ v, v < n → 0 ≤ gi col v ∧ gi col v ≤ 1048576)
 (k1 : q1.op = .move (.tmp q7)) (k1d : q1.dst = some qM) (k1g : q1.guard = none) (k2 : q2.op = .makeFunc (.func 80) #[] #[.tmp r]) (k2d : q2.dst = some qF) (k2g : q2.guard = none)
 (k3 : q3.op = .call { callee := .value (.func 79), args := #[.tmp qM, .tmp qF], argTypes := tys6 }) (k3d : q3.dst = some qC) (k3g : q3.guard = none)
 (hnd : [r, sN, sV, q7, qM, qF, qC].Nodup) (hlt : ∀ x ∈ [sV, q7, qM, qF, qC], x < e.n)
 (hK : ∀ ord : List Int, ord.Perm (ez n) → (∀ i j, i < j → j < n → gi col (gi ord i).toNat ≤ gi col (gi ord j).toNat) → DW Tryz.prog w0 rest Q (((((E2.set sV .dead noCon).set qM .dead noCon).set qF .dead noCon).set qC .dead noCon).set q7 (resAV [.own false [.sl true 3 1 (ord.map iC)]]) fun i => resCon [.own false [.sl true 3 1 (ord.map iC)]] (0, i))) :
 DW Tryz.prog w0 (.seq (.region id5 #[o1, o2, o3, o4] false) (.seq (.region id6 #[q1, q2, q3] false) rest)) Q e := by
 simp only [List.nodup_cons, List.mem_cons, List.not_mem_nil, or_false, not_or] at hnd;obtain ⟨⟨n1, n2, n3, n4, n5, n6⟩, ⟨n7, n8, n9, n10, n11⟩, ⟨n12, n13, n14, n15⟩, ⟨n16, n17, n18⟩, ⟨n19, n20⟩, n21, -⟩ := hnd;intro a w hs;refine wp_seq ?_;refine wp_region ?_;rw [show List.range (#[o1, o2, o3, o4] : Array Oper).size = [0, 1, 2, 3] from rfl];refine lr (o := o1) rfl g1 (U5 h1 hs fun a1 w1 hs1 => ?_);refine lr (o := o2) rfl g2 (U5 (by rw [hn1]; exact h2) hs1 fun a2 w2 hs2 => ?_);clear hs hs1 a1 w1 a w;obtain ⟨val, S, hst⟩ := hs2;have hsz : a2.tmps.size = e.n := by rw [← hn2]; exact hst.sz
 have hsN : a2.tmps.getD sN undef = .int .i64 (n : Nat) := by
  have h := hst.slot sN;rw [hN] at h;have h : RO w2 S (.p (.int .i64 (n : Nat))) (a2.tmps.getD sN undef) := h
  generalize a2.tmps.getD sN undef = v at h ⊢
  cases h; rfl
 have hpt : a2.tmps.getD r undef = val (r, 0) [] := by
  have h := hst.slot r;rw [hB] at h;exact h.2
 have hRP : RPok w2 (fun _ => True) [.sl fl t 1 (col.map iC)] (val (r, 0) []) := Si hst hC (fun _ _ => trivial) (fun _ _ _ => trivial);obtain ⟨bp, op, hpv, -, hbl, hcell⟩ := hRP;obtain ⟨u, hu1, hu2⟩ := hcell 0 _ rfl;rw [Nat.add_zero] at hu1;refine lr (o := o3) rfl g3 ?_;unfold Oper.wp;rw [jd h3 Yk, Oper.upon_enter]
 have harg : (#[Operand.tmp sN].map a2.eval) = #[.int .i64 (n : Nat)] := by
  simp only [List.map_toArray, List.map_cons, List.map_nil];rw [show a2.eval (.tmp sN) = a2.tmps.getD sN undef from rfl, hsN]
 rw [harg];refine (C8 n w2 hn).mono ?_;rintro e' w3 ⟨g, rfl, hg, ho, hb3⟩;rw [ej] at ho ⊢;dsimp only;obtain ⟨V, hV⟩ : ∃ V, V = Value.slice (some ⟨g, 0, none⟩) n n := ⟨_, rfl⟩;rw [← hV]
 refine lr (o := o4) rfl g4 (cw (v := V) (w' := w3) (by
  have : (a2.put o3.dst V).eval (.tmp sV) = V := by
   rw [h3d];show (a2.put (some sV) V).tmps.getD sV undef = _;simp [Act.put, hsz, hlt sV (by simp)]
  generalize a2.put o3.dst V = R at this ⊢
  unfold execOp
  simp [h4, this]) ?_)
 show Code.wp _ _ _ _ _;refine wp_seq ?_;refine wp_region ?_;rw [show List.range (#[q1, q2, q3] : Array Oper).size = [0, 1, 2] from rfl];rw [h3d, h4d];have hs7 : q7 < e.n := hlt q7 (by simp);have hsV : sV < e.n := hlt sV (by simp);have hsM : qM < e.n := hlt qM (by simp);have hsF : qF < e.n := hlt qF (by simp);have hsC : qC < e.n := hlt qC (by simp)
 have e1 : ((a2.put (some sV) V).put (some q7) V).eval (.tmp q7) = V := by
  show ((a2.put (some sV) V).put (some q7) V).tmps.getD q7 undef = _;simp [Act.put, hsz, hs7]
 have e2 : (((a2.put (some sV) V).put (some q7) V).put (some qM) V).eval (.tmp r) = .pointer (some ⟨bp, op, none⟩) := by
  rw [← hpv, ← hpt];show (((a2.put (some sV) V).put (some q7) V).put (some qM) V).tmps.getD r undef = _;simp [Act.put, Array.getD_eq_getD_getElem?, Array.getElem?_setIfInBounds, Ne.symm n2, Ne.symm n3, Ne.symm n4]
 obtain ⟨F, hF⟩ : ∃ F, F = Value.func (.func 80) #[] #[.pointer (some ⟨bp, op, none⟩)] := ⟨_, rfl⟩
 refine lr (o := q1) rfl k1g (cw (v := V) (w' := w3) (by
  generalize (a2.put (some sV) V).put (some q7) V = R at e1 ⊢
  unfold execOp
  simp [k1, e1]) ?_)
 rw [k1d]
 refine lr (o := q2) rfl k2g (cw (v := F) (w' := w3) (by
  generalize ((a2.put (some sV) V).put (some q7) V).put (some qM) V = R at e2 ⊢
  unfold execOp
  simp [k2, e2, hF, Instr.makeFunc, Result.andThen]) ?_)
 rw [k2d];refine lr (o := q3) rfl k3g ?_;unfold Oper.wp;rw [jd k3 Yj, Oper.upon_enter]
 have harg2 : (#[Operand.tmp qM, Operand.tmp qF].map ((((a2.put (some sV) V).put (some q7) V).put (some qM) V).put (some qF) F).eval) = #[V, F] := by
  simp only [List.map_toArray, List.map_cons, List.map_nil]
  have f1 : ((((a2.put (some sV) V).put (some q7) V).put (some qM) V).put (some qF) F).eval (.tmp qM) = V := by
   show ((((a2.put (some sV) V).put (some q7) V).put (some qM) V).put (some qF) F).tmps.getD qM undef = _;simp [Act.put, hsz, hsM, Array.getD_eq_getD_getElem?, Array.getElem?_setIfInBounds, Ne.symm n19]
  have f2 : ((((a2.put (some sV) V).put (some q7) V).put (some qM) V).put (some qF) F).eval (.tmp qF) = F := by
   show ((((a2.put (some sV) V).put (some q7) V).put (some qM) V).put (some qF) F).tmps.getD qF undef = _;simp [Act.put, hsz, hsF]
  rw [f1, f2]
 rw [harg2, hV, hF]
 have hcol : ∃ gd off cap, u = .slice (some ⟨gd, off, none⟩) n cap ∧ gd < w2.heap.size ∧ ∀ j, j < n → w2.cell? ⟨gd, off + j, none⟩ = some (.int .i64 (gi col j)) := by
  obtain ⟨A, cap, hv1, -, -, hv4⟩ := lj hu2;obtain ⟨gd, off, rfl, -, hv5⟩ := hv4 (by omega);rw [hcl] at hv1;exact ⟨gd, off, cap, hv1, bl (hv5 0 (by omega)), fun j hj => hv5 j (by omega)⟩
 obtain ⟨gd, off, cap, rfl, hgd, hgc⟩ := hcol;have hbl2 := hbl
 have hcc : Je w3 g 80 #[.pointer (some ⟨bp, op, none⟩)] (fun x y => gi col x.toNat - gi col y.toNat) (fun x => gi col x.toNat) (fun x => 0 ≤ x ∧ x < n) := by
  refine ⟨Enters.of Tryz.func80 (by kernel_rfl) rfl, fun x y W hx hy hW => ?_, fun x y hx hy => ⟨fun h => by omega, fun h => by omega⟩⟩;obtain ⟨x', rfl⟩ := Int.eq_ofNat_of_zero_le hx.1;obtain ⟨y', rfl⟩ := Int.eq_ofNat_of_zero_le hy.1;have hx2 : x' < n := by omega
  have hy2 : y' < n := by omega
  have hold : ∀ k, k < w2.heap.size → ∀ z, W.cell? ⟨k, z, none⟩ = w2.cell? ⟨k, z, none⟩ := fun k hk z => by
   rw [World.cell?_of_block (w := w3) (hW.block k (Nat.lt_of_lt_of_le hk hb3.size) (by simp; omega)), hb3.cell (by exact hk)]
  have a1 := hcb x' hx2;have a2 := hcb y' hy2;exact Iz x' y' _ _ bp op gd off n cap W (by rw [hold bp hbl]; exact hu1) hx2 hy2 (by rw [hold gd hgd]; exact hgc x' hx2) (by rw [hold gd hgd]; exact hgc y' hy2) ⟨a1.1, a1.2, a2.1, a2.2⟩
 refine (Cw w3 w2.heap.size g n n 80 _ _ _ _ hcc (ez n) w3 ho (ej n).symm hn (fun x hx => vv.1 hx) (World.grownBy.refl _ _)).mono ?_;rintro e4 w4 ⟨d', rfl, ho2, ⟨hp1, hp2⟩, hg2⟩;rw [← hV, ← hF];rw [← hV] at ho2;dsimp only;rw [k3d];have hb4 : Below w2.heap.size w2 w4 := hb3.grown hg2 hb3.size (fun k hk => by cases hk; omega);obtain ⟨v2, r1, r2, r3⟩ := Hv ho2;have hret : RetOk w2 w4 [.own false [.sl true 3 1 (d'.map iC)]] V v2 (fun _ => False) := ⟨hb4, r1, r2, fun b hb => hb.elim, r3⟩;have hst1 := hst.setP (d := sV) (av := .dead) (v := V) (by rw [hn2]; exact hsV) (Below.refl _ _) trivial;have hst2 := hst1.setP (d := qM) (av := .dead) (v := V) (w' := w2) (by show qM < E2.n; rw [hn2]; exact hsM) (Below.refl _ _) trivial;have hst3 := hst2.setP (d := qF) (av := .dead) (v := F) (w' := w2) (by show qF < E2.n; rw [hn2]; exact hsF) (Below.refl _ _) trivial;have hst4 := hst3.setP (d := qC) (av := .dead) (v := .tuple #[]) (w' := w2) (by show qC < E2.n; rw [hn2]; exact hsC) (Below.refl _ _) trivial;have hst5 := hst4.ret (d := q7) (by show q7 < E2.n; rw [hn2]; exact hs7) hret.toS
 have hact : ((((a2.put (some sV) V).put (some qM) V).put (some qF) F).put (some qC) (.tuple #[])).put (some q7) V = ((((a2.put (some sV) V).put (some q7) V).put (some qM) V).put (some qF) F).put (some qC) (.tuple #[]) := by
  rw [V3 _ qC q7 _ _ (Ne.symm n18), V3 _ qF q7 _ _ (Ne.symm n17), V3 _ qM q7 _ _ (Ne.symm n16)]
 rw [← hact];show Code.wp _ _ _ _ _;exact hK d' hp1 (fun i j hij hj => hp2 i j (Nat.zero_le _) hij hj) _ _ ⟨_, _, hst5⟩
end Go.Proofs.YtolpiolnhgpjjaaGreat
