/- Parts of the proof, joined: Dy3, Dsl, Dtm, Dbo, Dn. -/
import Derived.Test.YtdiiggpohcjppaaGreatCJn7
import Derived.Great.BuildSlice
set_option linter.unusedSimpArgs false
set_option linter.unusedVariables false
namespace Go.Proofs.YtdiiggpohcjppaaGreat
section
open Go Go.RowKit
def chunk (k : Nat) (ys : List C) : Nat → List (List C)
 | 0 => []
 | n + 1 => ys.take k :: chunk k (ys.drop k) n
theorem chunk_len (k : Nat) : ∀ (n : Nat) (ys : List C), (chunk k ys n).length = n
 | 0, _ => rfl
 | n + 1, ys => by unfold chunk; rw [List.length_cons, chunk_len k n]
theorem chunk_row (k : Nat) : ∀ (n : Nat) (ys : List C), ys.length = n * k → ∀ r ∈ chunk k ys n, r.length = k
 | 0, _, _, r, hr => by unfold chunk at hr; simp at hr
 | n + 1, ys, h, r, hr => by
  unfold chunk at hr
  rw [Nat.add_mul, Nat.one_mul] at h
  rcases List.mem_cons.1 hr with rfl | hr
  ·rw [List.length_take]; omega
  ·exact chunk_row k n _ (by rw [List.length_drop]; omega) r hr
theorem chunk_mem (k : Nat) : ∀ (n : Nat) (ys : List C), ∀ r ∈ chunk k ys n, ∀ c ∈ r, c ∈ ys
 | 0, _, r, hr, _, _ => by unfold chunk at hr; simp at hr
 | n + 1, ys, r, hr, c, hc => by
  unfold chunk at hr
  rcases List.mem_cons.1 hr with rfl | hr
  ·exact List.mem_of_mem_take hc
  ·exact List.mem_of_mem_drop (chunk_mem k n _ r hr c hc)
theorem chunk_at (k : Nat) : ∀ (n : Nat) (ys : List C), ys.length = n * k → ∀ j q c, rowC (chunk k ys n) j q = some c → ys[j * k + q]? = some c
 | 0, _, _, j, q, c, h => by simp [chunk, rowC] at h
 | n + 1, ys, hl, j, q, c, h => by
  rw [Nat.add_mul, Nat.one_mul] at hl
  unfold chunk at h
  cases j with
  | zero =>
   have h1 : (ys.take k)[q]? = some c := by simpa [rowC] using h
   rw [List.getElem?_take] at h1
   split at h1
   ·rw [Nat.zero_mul, Nat.zero_add]; exact h1
   ·cases h1
  | succ j =>
   have h1 : rowC (chunk k (ys.drop k) n) j q = some c := by simpa [rowC] using h
   have h2 := chunk_at k n _ (by rw [List.length_drop]; omega) j q c h1
   rw [List.getElem?_drop] at h2
   rw [show (j + 1) * k + q = k + (j * k + q) by rw [Nat.add_mul, Nat.one_mul]; omega]
   exact h2
theorem setC_full : ∀ (ys xs pre : List C), xs.length = ys.length → setC (pre ++ xs) pre.length ys = pre ++ ys
 | [], xs, pre, h => by have : xs = [] := List.eq_nil_of_length_eq_zero (by simpa using h); subst this; rfl
 | y :: ys, [], pre, h => by simp at h
 | y :: ys, x :: xs, pre, h => by
  unfold setC
  have := setC_full ys xs (pre ++ [y]) (by simpa using h)
  have e : (pre ++ x :: xs).set pre.length y = pre ++ [y] ++ xs := by simp
  rw [e]
  simpa using this
def zerosC (z : List Value) : Nat → List C
 | 0 => []
 | n + 1 => z.map C.p ++ zerosC z n
theorem zerosC_len (z : List Value) : ∀ n, (zerosC z n).length = n * z.length
 | 0 => by simp [zerosC]
 | n + 1 => by unfold zerosC; rw [List.length_append, List.length_map, zerosC_len z n, Nat.add_mul, Nat.one_mul, Nat.add_comm]
theorem zerosC_at (z : List Value) (hz : 0 < z.length) : ∀ n i, i < n * z.length → (zerosC z n)[i]? = (z[i % z.length]?).map C.p
 | 0, i, h => by simp at h
 | n + 1, i, h => by
  unfold zerosC
  rw [Nat.add_mul, Nat.one_mul] at h
  by_cases hi : i < z.length
  ·rw [List.getElem?_append_left (by simpa using hi), List.getElem?_map, Nat.mod_eq_of_lt hi]
  ·rw [List.getElem?_append_right (by simpa using hi), List.length_map, zerosC_at z hz n _ (by omega), ← Nat.mod_eq_sub_mod (by omega)]
def buildSliceQ (P : Program) (nn : Nat) (d : Option Nat) (ty : TypeId) (n : Nat) (ps : List (Nat × Operand)) : Q := match tabOf P ty with
 | none => .fail
 | some ti => match ti.elem with
  | none => .fail
  | some el => match tabOf P el with
   | none => .fail
   | some te => if n * te.size ≤ 16777216 then partsQ ps fun rs => (match fillC (fun i => some (i * te.size, te.size)) (zerosC te.zero n) rs with
    | some ys => if ys.all C.flat = true then setQ nn d [] (.own false 1) (oneCon ⟨none, [.sl true el te.size (chunk te.size ys n)]⟩) else .fail
    | none => .fail) else .fail
def moveSliceQ (nn : Nat) (d : Option Nat) (el : TypeId) (te : TI) (av : AV) : Q := match d, av with
 | some dd, .ref s g p ag m => if ag = te.agg ∧ m = te.size ∧ dd ≠ s ∧ dd < nn ∧ (ag = false → m = 1) then subsQ s g p m fun cs => if cs.all C.one = true then (if cs.all C.flat = true then setQ nn (some dd) [] (.own false 1) (oneCon ⟨none, [.sl true el te.size [cs]]⟩)
  else .ups (.set dd (.own false 1) (oneCon ⟨none, [.sl true el te.size [List.replicate te.size .hole]]⟩) :: graftU s p dd [(0, 0), (0, 0)] 0 cs)) else .fail else .fail
 | _, _ => .fail
section
variable {P : Program} {nn : Nat} {o : Oper} {ct : Cts} {t : Option Stat} {e : Env} {K : Env → Prop} {w0 : Base} {a : Act} {w : World} {val : Val} {S : Nat → Prop} {Qx : Exit → Act → World → Prop}
theorem fillC_len (place : Nat → Option (Nat × Nat)) : ∀ (ps : List (Nat × List C)) (xs ys : List C), fillC place xs ps = some ys → ys.length = xs.length
 | [], xs, ys, h => by cases h; rfl
 | (i, zs) :: ps, xs, ys, h => by
  unfold fillC at h
  split at h
  ·cases h
  ·split at h
   ·cases h
   ·rw [fillC_len place ps _ _ h, setC_length]
theorem run_build_slice {w : World} {ty el : TypeId} {len : Nat} {parts : Array (Nat × Value)} {cells : Array Value} {ie : TypeInfo} {z : Value} (hu : P.underlying ty = some (.slice el)) (hie : P.info? el = some ie) (hz : ie.zero = some z) (hsmall : ¬ len * ie.size > 2 ^ 24) (h0 : len * ie.size = 0 → parts = #[] ∧ cells = #[])
 (h : Instr.fill (fun i => some (i * ie.size, ie.size)) ((Array.range (len * ie.size)).map (z.cells[· % z.cells.size]!)) parts.toList = some cells) :
 (Instr.buildSlice ty len parts).run P w = .ok (.slice (some ⟨w.heap.size, 0, none⟩) len len) (w.alloc (.cells cells el)) := by
 by_cases hp : len * ie.size = 0
 ·obtain ⟨rfl, rfl⟩ := h0 hp
  have hr : Array.range 0 = #[] := rfl
  simp [Instr.buildSlice, run_underlying hu, sizeOf, typeInfo, hie, hp, Instr.fill, newRow, hr]
 ·exact run_buildSlice w ty el len parts cells ie z hu hie hz hsmall hp h
theorem buildSlice_sound {ty : TypeId} {n : Nat} {ps : Array (Nat × Operand)} (ho : o.op = .buildSlice ty n ps) : Sound P nn o (buildSliceQ P nn o.dst ty n ps.toList) := by
 intro ct t e K w0 a w Qx _ hn hq ⟨val, S, hs⟩
 unfold buildSliceQ at hq
 split at hq
 ·exact hq.elim
 ·rename_i ti hti
  split at hq
  ·exact hq.elim
  ·rename_i el hel0
   split at hq
   ·exact hq.elim
   ·rename_i te hte
    obtain ⟨i, u, z, hi, hu, hz, hsz, hby, hzz, hzs, hz1, hag, hel, hfi, hone, hpos⟩ := tabOf_spec hti
    obtain ⟨i2, u2, z2, hi2, hu2, hz2, hsz2, hby2, hzz2, hzs2, hz12, hag2, hel2, hfi2, hone2, hpos2⟩ := tabOf_spec hte
    have hus : P.underlying ty = some (.slice el) := by
     rw [hu]
     rw [hel0] at hel
     cases u <;> simp [descElem] at hel
     rw [hel]
    split at hq
    ·rename_i hsm
     obtain ⟨rs, h1, h2, h3⟩ := parts_run hs _ _ hq
     split at h1
     ·rename_i ys hys
      split at h1
      ·rename_i hfl
       obtain ⟨d, hd, hdn, hK⟩ := setQ_run h1
       have hzl : te.zero.length = te.size := by rw [← hzz2, Array.length_toList, hzs2, hsz2]
       have hz0 : ROs w S (zerosC te.zero n) ((Array.range (n * i2.size)).map (z2.cells[· % z2.cells.size]!)) := by
        refine ⟨by simp [zerosC_len, hzl, hsz2], fun j x hx => ?_⟩
        have hj : j < n * te.size := by
         have := (List.getElem?_eq_some_iff.1 hx).1
         rwa [zerosC_len, hzl] at this
        rw [zerosC_at te.zero (by omega) n j (by rw [hzl]; exact hj)] at hx
        have hm : j % z2.cells.size < z2.cells.size := Nat.mod_lt _ (by omega)
        rw [← hzz2, Array.length_toList, Array.getElem?_toList, Array.getElem?_eq_getElem hm] at hx
        cases hx
        refine ⟨_, ?_, .p _⟩
        simp [hsz2, hj, hm]
       obtain ⟨cs, h4, h5⟩ := fill_ros _ rs (ps.toList.map fun p => (p.1, a.eval p.2)) _ _ ys hz0 (by simp [h2]) h3 hys
       have hyl : ys.length = n * te.size := by rw [fillC_len _ _ _ _ hys, zerosC_len, hzl]
       have hrun : (Instr.buildSlice ty n (ps.map fun (i, x) => (i, a.eval x))).run P w = .ok (.slice (some ⟨w.heap.size, 0, none⟩) n n) (w.alloc (.cells cs el)) := by
        refine run_build_slice hus hi2 hz2 (by rw [hsz2]; omega) (fun h0 => ?_) ?_
        ·have hcs : cs = #[] := Array.eq_empty_of_size_eq_zero (by rw [h5.1, hyl, ← hsz2]; exact h0)
         refine ⟨?_, hcs⟩
         rw [hsz2] at h0
         have hp0 : rs = [] := by
          cases rs with
          | nil => rfl
          | cons r rs =>
           obtain ⟨i0, zs⟩ := r
           unfold fillC at hys
           dsimp only at hys
           have hz0l : (zerosC te.zero n).length = 0 := by rw [zerosC_len, hzl]; exact h0
           rw [if_pos (by rw [hz0l]; omega)] at hys
           cases hys
         rw [hp0] at h2
         have : ps.toList = [] := List.eq_nil_of_length_eq_zero (by simpa using h2.symm)
         have : ps = #[] := by simpa using this
         rw [this]; simp
        ·rw [hsz2] at h4 ⊢
         rw [Array.toList_map]
         simpa using h4
       obtain ⟨val', S', h7⟩ := hs.newSlice (d := d) (t := el) (k := te.size) (cap := n) (rows := chunk te.size ys n) (cur := cs) (by omega) hpos2 (chunk_row _ _ _ hyl) (fun r hr c hc => List.all_eq_true.1 hfl c (chunk_mem _ _ _ r hr c hc)) (by rw [chunk_len]; exact Nat.le_refl _) (by
        unfold maxLen
        have : n * 1 ≤ n * te.size := Nat.mul_le_mul_left n hpos2
        omega) (by rw [h5.1, hyl]) fun j q c hjq => h5.2 _ _ (chunk_at _ _ _ hyl j q c hjq)
       rw [chunk_len] at h7
       refine wp_value (v := .slice (some ⟨w.heap.size, 0, none⟩) n n) (w' := w.alloc (.cells cs el)) ?_ ⟨_, hK, val', S', ?_⟩
       ·unfold execOp
        simp only [ho, Sem.run_bind, hrun, Result.andThen_ok]
        rfl
       ·rw [hd]; exact h7
      ·exact h1.elim
     ·exact h1.elim
    ·exact hq.elim
theorem moveSlice_sound {ty el : TypeId} {te ti : TI} {x : Operand} {av : AV} (ho : o.op = .buildSlice ty 1 #[(0, x)]) (hti : tabOf P ty = some ti) (hel0 : ti.elem = some el) (hte : tabOf P el = some te)
 (hn : e.n = nn) (hs : StV w0 e a w val S) (h2 : av.plain = true → ∀ s', SV e w val S s' av (a.eval x)) (h1 : qrun ct t (moveSliceQ nn o.dst el te av) e K) (hsm : te.size ≤ 16777216) : o.wp P a w (fun a' w' => ∃ e', K e' ∧ St w0 e' a' w') Qx := by
 obtain ⟨i, u, z, hi, hu, hz, hsz, hby, hzz, hzs, hz1, hag, hel, hfi, hone, hpos⟩ := tabOf_spec hti
 obtain ⟨i2, u2, z2, hi2, hu2, hz2, hsz2, hby2, hzz2, hzs2, hz12, hag2, hel2, hfi2, hone2, hpos2⟩ := tabOf_spec hte
 have hus : P.underlying ty = some (.slice el) := by
  rw [hu]
  rw [hel0] at hel
  cases u <;> simp [descElem] at hel
  rw [hel]
 unfold moveSliceQ at h1
 split at h1
 ·rename_i d dd s g p ag m hdd
  split at h1
  ·rename_i hh
   obtain ⟨hagt, hm, hds, hdn, hag1⟩ := hh
   obtain ⟨cs, h3, h4, h5⟩ := subsQ_run _ h1
   obtain ⟨hpn, cn, hcn, hfr, hlk⟩ := subs_spec (by omega) h4
   split at h5
   ·rename_i hall
    obtain ⟨-, hv⟩ := h2 rfl 0
    have hv := hv fun i hi => hfr i (by omega)
    have hno : ∀ i c, cs[i]? = some c → NodeOk w S (val (s, 0)) (cellP p i) c := fun i c hc => hs.mem.node _ _ _ _ hcn (hlk i c hc)
    have hvs : ∃ vs : Array Value, (a.eval x).cells = vs ∧ vs.size = te.size ∧ ∀ i, i < te.size → vs[i]? = some (val (s, 0) (cellP p i)) := by
     cases ag with
     | false =>
      obtain ⟨hm1, hv3⟩ := hv
      have hc0 := List.getElem?_eq_getElem (show 0 < cs.length by omega)
      have hone2 := node_one (hno 0 _ hc0) (List.all_eq_true.1 hall _ (List.getElem_mem _))
      rw [cellP_zero] at hone2
      refine ⟨#[val (s, 0) p], by rw [hv3]; exact hone2.2, by simp; omega, fun i hi => ?_⟩
      have : i = 0 := by omega
      subst this
      rw [cellP_zero]; rfl
     | true =>
      obtain ⟨vs, hv3, hv4, hv5⟩ := hv
      exact ⟨vs, by rw [hv3]; rfl, by omega, fun i hi => hv5 i (by omega)⟩
    obtain ⟨vs, hvs1, hvs2, hvs3⟩ := hvs
    have hrun : (Instr.buildSlice ty 1 ((#[(0, x)] : Array (Nat × Operand)).map fun (i, x) => (i, a.eval x))).run P w = .ok (.slice (some ⟨w.heap.size, 0, none⟩) 1 1) (w.alloc (.cells vs el)) := by
     refine run_build_slice hus hi2 hz2 (by rw [hsz2]; omega) (fun h0 => by omega) ?_
     obtain ⟨cs', g1, g2⟩ := fill_ros (w := w) (S := S) (fun i => some (i * i2.size, i2.size)) [(0, vs.toList.map C.p)] [(0, a.eval x)] ((Array.range (1 * i2.size)).map (z2.cells[· % z2.cells.size]!)) (((Array.range (1 * i2.size)).map (z2.cells[· % z2.cells.size]!)).toList.map C.p) (vs.toList.map C.p)
      ⟨by simp, fun j y hy => by
       simp only [List.getElem?_map, Array.getElem?_toList, Option.map_eq_some_iff] at hy
       obtain ⟨q, hq, rfl⟩ := hy
       exact ⟨q, hq, .p q⟩⟩ rfl (fun j y hy => by
       cases j with
       | succ j => simp at hy
       | zero =>
        simp at hy
        subst hy
        refine ⟨_, rfl, by rw [hvs1]; simp, fun q z hz => ?_⟩
        simp only [List.getElem?_map, Array.getElem?_toList, Option.map_eq_some_iff] at hz
        obtain ⟨q2, hq, rfl⟩ := hz
        exact ⟨q2, by rw [hvs1]; exact hq, .p q2⟩) (by
       unfold fillC
       dsimp only
       rw [if_neg (by simp [hvs2, hsz2])]
       unfold fillC
       rw [Nat.zero_mul]
       have := setC_full (vs.toList.map C.p) (((Array.range (1 * i2.size)).map (z2.cells[· % z2.cells.size]!)).toList.map C.p) [] (by simp [hvs2, hsz2])
       simpa using this)
     have hcv : cs' = vs := by
      apply Array.ext_getElem?
      intro j
      have hsz' : cs'.size = vs.size := by have := g2.1; simpa using this
      by_cases hj : j < vs.size
      ·obtain ⟨u, k1, k2⟩ := g2.2 j (.p vs[j]) (by simp [hj])
       rw [k1, Array.getElem?_eq_getElem hj, ro_p k2]
      ·rw [Array.getElem?_eq_none (by omega), Array.getElem?_eq_none (by omega)]
     rw [← hcv]
     simpa using g1
    have hexec : (execOp a.eval o).run P w = .ok (.value (.slice (some ⟨w.heap.size, 0, none⟩) 1 1)) (w.alloc (.cells vs el)) := by
     unfold execOp
     simp only [ho, Sem.run_bind, hrun, Result.andThen_ok]
     rfl
    have hrc : ∀ (r : List C) j q c, rowC [r] j q = some c → j = 0 ∧ r[q]? = some c := fun r j q c hh => by
     obtain ⟨r', k1, k2⟩ := rowC_some.1 hh
     cases j with
     | succ j => simp at k1
     | zero => simp at k1; subst k1; exact ⟨rfl, k2⟩
    split at h5
    ·rename_i hflat
     obtain ⟨d', hd, hdn', hK⟩ := setQ_run h5
     cases hd
     obtain ⟨val', S', h7, -⟩ := hs.newSliceV (d := dd) (t := el) (k := te.size) (cap := 1) (rows := [cs]) (cur := vs) (by omega) hpos2 (fun r hr => by simp at hr; subst hr; omega) (fun r hr c hc => by simp at hr; subst hr; exact List.all_eq_true.1 hflat c hc) (by simp) (by unfold maxLen; omega) (by omega) fun j q c hjq => by
      obtain ⟨rfl, hq⟩ := hrc _ _ _ _ hjq
      have hql : q < te.size := by have := (List.getElem?_eq_some_iff.1 hq).1; omega
      refine ⟨_, by rw [Nat.zero_mul, Nat.zero_add]; exact hvs3 q hql, ?_⟩
      have h8 := hno q c hq
      have h9 := List.all_eq_true.1 hflat c (List.mem_of_getElem? hq)
      have h10 := List.all_eq_true.1 hall c (List.mem_of_getElem? hq)
      cases c with
      | p v => rw [show val (s, 0) (cellP p q) = v from h8]; exact .p v
      | hole => cases h10
      | sl own t2 k3 rows3 =>
       cases own with
       | true => cases h9
       | false => exact h8
     refine wp_value hexec ⟨_, hK, val', S', ?_⟩
     rw [hdd]; exact h7
    ·obtain ⟨val', S', h7, h8⟩ := hs.newSliceV (d := dd) (t := el) (k := te.size) (cap := 1) (rows := [List.replicate te.size .hole]) (cur := vs) (by omega) hpos2 (fun r hr => by simp at hr; subst hr; simp) (fun r hr c hc => by simp at hr; subst hr; rw [List.eq_of_mem_replicate hc]; rfl) (by simp) (by unfold maxLen; omega) (by omega) fun j q c hjq => by
      obtain ⟨rfl, hq⟩ := hrc _ _ _ _ hjq
      have hql : q < te.size := by have := (List.getElem?_eq_some_iff.1 hq).1; simpa using this
      rw [List.getElem?_replicate, if_pos hql] at hq
      cases hq
      exact ⟨_, by rw [Nat.zero_mul, Nat.zero_add]; exact hvs3 q hql, .hole _⟩
     have hcd : (e.set dd (.own false 1) (oneCon ⟨none, [.sl true el te.size [List.replicate te.size .hole]]⟩)).con (dd, 0) = some ⟨none, [.sl true el te.size [List.replicate te.size .hole]]⟩ := by simp [Env.set, oneCon]
     have hsl := h7.mem.node (dd, 0) _ [(0, 0)] _ hcd (by rw [look_one]; rfl)
     have hown : (a.put (some dd) (.slice (some ⟨w.heap.size, 0, none⟩) 1 1)).tmps.getD dd undef = .slice (some ⟨w.heap.size, 0, none⟩) 1 1 := by rw [put_at (by rw [hs.sz]; omega), if_pos rfl]
     have hslot := h7.slot dd
     have hss : (e.set dd (.own false 1) (oneCon ⟨none, [.sl true el te.size [List.replicate te.size .hole]]⟩)).s dd = .own false 1 := by simp [Env.set]
     rw [hss] at hslot
     obtain ⟨-, -, hv0⟩ := hslot
     have hv0' : val' (dd, 0) [(0, 0)] = .slice (some ⟨w.heap.size, 0, none⟩) 1 1 := hv0.symm.trans hown
     have hcell : ∀ q, q < te.size → val' (dd, 0) [(0, 0), (0, q)] = val (s, 0) (cellP p q) := fun q hq => by
      obtain ⟨-, -, ⟨hh, -⟩ | ⟨b, o, cap, cur, k1, k2, -, -, -, k3⟩⟩ := hsl
      ·cases hh
      ·rw [hv0'] at k1
       simp only [Value.slice.injEq, Option.some.injEq, Addr.mk.injEq] at k1
       obtain ⟨⟨rfl, rfl, -⟩, -⟩ := k1
       rw [heap_alloc_new] at k2
       cases k2
       have := k3 0 q .hole (by unfold rowC; simp [hq])
       simp only [Nat.zero_mul, Nat.zero_add] at this
       rw [hvs3 q hq] at this
       exact (Option.some.inj this).symm
     obtain ⟨val3, g3⟩ := grafts_run (s := s) (r := dd) (Ne.symm hds) (p1 := p) hpn (p2 := [(0, 0)] ++ [(0, 0)]) (by simp) cs 0 _ _ cn ⟨none, [.sl true el te.size [List.replicate te.size .hole]]⟩ h7 (by simp [Env.set, Ne.symm hds, hcn]) hcd fun m' c hm' => by
      have hml : m' < te.size := by have := (List.getElem?_eq_some_iff.1 hm').1; omega
      rw [Nat.zero_add, cellP_snoc, Nat.zero_add]
      refine ⟨hlk m' c hm', ?_, ?_⟩
      ·refine (look_step (by simp)).2 ⟨el, te.size, [List.replicate te.size .hole], by rw [look_one]; rfl, ?_⟩
       unfold rowC
       simp [hml]
      ·rw [h8 (s, 0) (Ne.symm hds)]
       exact hcell m' hml
     refine wp_value hexec ⟨_, h5.2, val3, S', ?_⟩
     rw [hdd]
     show StV w0 (upds (graftU s p dd [(0, 0), (0, 0)] 0 cs) (e.set dd (.own false 1) (oneCon ⟨none, [.sl true el te.size [List.replicate te.size .hole]]⟩))) _ _ _ _
     rw [upds_grafts]
     exact g3
   ·exact h5.elim
  ·exact h1.elim
 ·exact h1.elim
def bs1Q (P : Program) (nn : Nat) (d : Option Nat) (ty : TypeId) (x : Operand) : Q := match tabOf P ty with
 | none => .fail
 | some ti => match ti.elem with
  | none => .fail
  | some el => match tabOf P el with
   | none => .fail
   | some te => opd x fun av => match partOf av with
    | some _ => buildSliceQ P nn d ty 1 [(0, x)]
    | none => if te.size ≤ 16777216 then moveSliceQ nn d el te av else .fail
def bsQ (P : Program) (nn : Nat) (d : Option Nat) (ty : TypeId) (n : Nat) (ps : List (Nat × Operand)) : Q := match n, ps with
 | 1, [(0, x)] => bs1Q P nn d ty x
 | n, ps => buildSliceQ P nn d ty n ps
theorem bs_sound {ty : TypeId} {n : Nat} {ps : Array (Nat × Operand)} (ho : o.op = .buildSlice ty n ps) : Sound P nn o (bsQ P nn o.dst ty n ps.toList) := by
 unfold bsQ
 split
 ·rename_i x hps
  have hps : ps = #[(0, x)] := by
   cases ps; simp only [Array.toList] at hps; rw [hps]
  subst hps
  intro ct t e K w0 a w Qx hct hn hq ⟨val, S, hs⟩
  unfold bs1Q at hq
  split at hq
  ·exact hq.elim
  ·rename_i ti hti
   split at hq
   ·exact hq.elim
   ·rename_i el hel0
    split at hq
    ·exact hq.elim
    ·rename_i te hte
     obtain ⟨av, h1, h2, -⟩ := opd_sv hq hs
     split at h1
     ·exact buildSlice_sound ho ct t e K w0 a w Qx hct hn h1 ⟨val, S, hs⟩
     ·split at h1
      ·rename_i hsm
       exact moveSlice_sound ho hti hel0 hte hn hs h2 h1 hsm
      ·exact h1.elim
 ·exact buildSlice_sound ho
end
end
section
open Go Go.RowKit
def cutR {α : Type} (l : List α) (i j : Nat) : List α := (l.drop i).take (j - i)
theorem cutR_len {α : Type} {l : List α} {i j : Nat} (hij : i ≤ j) (hj : j ≤ l.length) : (cutR l i j).length = j - i := by
 unfold cutR; rw [List.length_take, List.length_drop]; omega
theorem cutR_mem {α : Type} {l : List α} {i j : Nat} {x : α} (h : x ∈ cutR l i j) : x ∈ l := List.mem_of_mem_drop (List.mem_of_mem_take h)
theorem rowC_cut {rows : List (List C)} {i j a q : Nat} {c : C} (h : rowC (cutR rows i j) a q = some c) : rowC rows (a + i) q = some c := by
 unfold rowC cutR at *
 rw [List.getElem?_take] at h
 split at h
 ·rw [List.getElem?_drop, Nat.add_comm i a] at h; exact h
 ·cases h
def cutV (k i j : Nat) : Value → Value
 | .slice A _ cap => .slice (if cap = i then A else A.map (·.add (i * k))) (j - i) (cap - i)
 | v => v
def valCut (val : Val) (d i : Nat) (v' : Value) : Val := fun key path => if key = (d, 0) then (match path with
 | [(0, 0)] => v'
 | (0, 0) :: (j, q) :: z => val key ((0, 0) :: (j + i, q) :: z)
 | p => val key p) else val key path
section
variable {w0 : Base} {e : Env} {a : Act} {w : World} {val : Val} {S : Nat → Prop}
theorem StV.cut (h : StV w0 e a w val S) {d t k i j : Nat} {rows : List (List C)} (hd : d < e.n) (hc : e.con (d, 0) = some ⟨none, [.sl true t k rows]⟩) (hij : i ≤ j) (hj : j ≤ rows.length) :
 StV w0 (e.set d (.own false 1) (oneCon ⟨none, [.sl true t k (cutR rows i j)]⟩)) (a.put (some d) (cutV k i j (val (d, 0) [(0, 0)]))) w (valCut val d i (cutV k i j (val (d, 0) [(0, 0)]))) S := by
 generalize hv' : cutV k i j (val (d, 0) [(0, 0)]) = v'
 have hl0 : look [C.sl true t k rows] [(0, 0)] = some (.sl true t k rows) := by rw [look_one]; rfl
 obtain ⟨hk, hkr, hsl⟩ := h.mem.node (d, 0) _ _ _ hc hl0
 have hS : ∀ b, S b → b < w.heap.size → w.heap[b]? = w.heap[b]? := fun b _ _ => rfl
 have hcon : ∀ key : CKey, key.1 ≠ d → (e.set d (.own false 1) (oneCon ⟨none, [.sl true t k (cutR rows i j)]⟩)).con key = e.con key := fun key hk => by simp [Env.set, hk]
 have hcd : (e.set d (.own false 1) (oneCon ⟨none, [.sl true t k (cutR rows i j)]⟩)).con (d, 0) = some ⟨none, [.sl true t k (cutR rows i j)]⟩ := by simp [Env.set, oneCon]
 have hcs : ∀ n, n ≠ 0 → (e.set d (.own false 1) (oneCon ⟨none, [.sl true t k (cutR rows i j)]⟩)).con (d, n) = none := fun n hn => by simp [Env.set, oneCon, hn]
 have hval : ∀ key, key ≠ (d, 0) → valCut val d i v' key = val key := fun key hk => by funext p; unfold valCut; rw [if_neg hk]
 have hv0 : valCut val d i v' (d, 0) [(0, 0)] = v' := by unfold valCut; rw [if_pos rfl]; rfl
 have hvo : ∀ a q z, valCut val d i v' (d, 0) ((0, 0) :: (a, q) :: z) = val (d, 0) ((0, 0) :: (a + i, q) :: z) := fun a q z => by unfold valCut; rw [if_pos rfl]; rfl
 have hcase : ∀ cn : Con, ∀ key : CKey, (e.set d (.own false 1) (oneCon ⟨none, [.sl true t k (cutR rows i j)]⟩)).con key = some cn → (key = (d, 0) ∧ cn = ⟨none, [.sl true t k (cutR rows i j)]⟩) ∨ (key.1 ≠ d ∧ key ≠ (d, 0) ∧ e.con key = some cn) := fun cn key hk => by
  by_cases hkd : key.1 = d
  ·by_cases hk0 : key = (d, 0)
   ·subst hk0; rw [hcd] at hk; cases hk; exact .inl ⟨rfl, rfl⟩
   ·obtain ⟨x, y⟩ := key
    simp only at hkd
    subst hkd
    rw [hcs y (fun hy => hk0 (by rw [hy]))] at hk
    cases hk
  ·rw [hcon key hkd] at hk; exact .inr ⟨hkd, fun hh => hkd (by rw [hh]), hk⟩
 have hlk : ∀ p c, look [C.sl true t k (cutR rows i j)] p = some c → (p = [(0, 0)] ∧ c = .sl true t k (cutR rows i j)) ∨ (∃ a q z, p = (0, 0) :: (a, q) :: z ∧ look [C.sl true t k rows] ((0, 0) :: (a + i, q) :: z) = some c) := fun p c hp => by
  match p with
  | [] => cases hp
  | (j0, q0) :: z =>
   unfold look at hp
   cases j0 with
   | succ j0 => simp at hp
   | zero =>
    cases q0 with
    | succ q0 => simp at hp
    | zero =>
     simp only [List.getElem?_cons_zero, Option.bind_some] at hp
     match z with
     | [] => rw [at_nil] at hp; cases hp; exact .inl ⟨rfl, rfl⟩
     | (a, q) :: z =>
      rw [at_cons] at hp
      refine .inr ⟨a, q, z, rfl, ?_⟩
      cases hx : rowC (cutR rows i j) a q with
      | none => rw [hx] at hp; cases hp
      | some c0 =>
       rw [hx] at hp
       unfold look
       simp only [List.getElem?_cons_zero, Option.bind_some]
       rw [at_cons, rowC_cut hx]
       exact hp
 have hvb : ∀ b o n cap, v' = .slice (some ⟨b, o, none⟩) n cap → OwnB e.con val b (d, 0) [(0, 0)] := fun b o n cap hh => by
  rcases hsl with ⟨-, h0⟩ | ⟨b1, o1, cap1, cur, h0, -⟩
  ·rw [h0] at hv'
   rw [hh] at hv'
   simp only [cutV, Value.slice.injEq] at hv'
   obtain ⟨h1, -⟩ := hv'
   split at h1 <;> cases h1
  ·rw [h0] at hv'
   rw [hh] at hv'
   simp only [cutV, Value.slice.injEq] at hv'
   obtain ⟨h1, -⟩ := hv'
   have hb : b = b1 := by
    split at h1
    ·cases h1; rfl
    ·rw [Option.map_some, addr_off] at h1; cases h1; rfl
   subst hb
   exact .inr ⟨_, t, k, rows, _, _, hc, hl0, _, h0⟩
 have hown : ∀ b key p, OwnB (e.set d (.own false 1) (oneCon ⟨none, [.sl true t k (cutR rows i j)]⟩)).con (valCut val d i v') b key p →
  (key = (d, 0) ∧ p = [(0, 0)] ∧ OwnB e.con val b (d, 0) [(0, 0)]) ∨ (∃ a q z, key = (d, 0) ∧ p = (0, 0) :: (a, q) :: z ∧ OwnB e.con val b (d, 0) ((0, 0) :: (a + i, q) :: z)) ∨ (key ≠ (d, 0) ∧ OwnB e.con val b key p) := fun b key p ho => by
  obtain ⟨cn, hcn⟩ := ho.some
  rcases hcase cn key hcn with ⟨rfl, rfl⟩ | ⟨hk1, hk2, hk3⟩
  ·rcases ho with ⟨-, ⟨t', xs', h1⟩, -⟩ | ⟨cn, t', k', rows', n', cap', h1, h2, o', h3⟩
   ·rw [hcd] at h1; cases h1
   ·rw [hcd] at h1
    cases h1
    rcases hlk p _ h2 with ⟨rfl, -⟩ | ⟨a, q, z, rfl, h4⟩
    ·rw [hv0] at h3; exact .inl ⟨rfl, rfl, hvb b _ _ _ h3⟩
    ·rw [hvo] at h3; exact .inr (.inl ⟨a, q, z, rfl, rfl, .inr ⟨_, t', k', rows', n', cap', hc, h4, o', h3⟩⟩)
  ·exact .inr (.inr ⟨hk2, ho.con (hcon key hk1).symm (hval key hk2).symm⟩)
 refine ⟨?_, h.defers, ⟨fun key cn p c h1 h2 => ?_, fun key t' xs' h1 => ?_, fun b key p key' p' h1 h2 => ?_, fun b hb' => ⟨(h.mem.sep b hb').1, fun key p ho => ?_⟩⟩, fun s => ?_, h.frm, fun b key p ho => ?_, fun s hs => ?_, h.sS⟩
 ·simp [Act.put, Env.set, h.sz]
 ·rcases hcase cn key h1 with ⟨rfl, rfl⟩ | ⟨hk1, hk2, hk3⟩
  ·rcases hlk p c h2 with ⟨rfl, rfl⟩ | ⟨a, q, z, rfl, h4⟩
   ·refine ⟨hk, fun r hr => hkr r (cutR_mem hr), ?_⟩
    rw [hv0]
    rcases hsl with ⟨h00, h0⟩ | ⟨b, o, cap, cur, h0, g1, g2, g3, g4, g5⟩
    ·left
     subst h00
     rw [h0] at hv'
     simp at hj
     subst hj
     have : i = 0 := by omega
     subst this
     exact ⟨rfl, by rw [← hv']; rfl⟩
    ·rw [h0] at hv'
     rw [cutR_len hij hj]
     by_cases hci : cap = i
     ·right
      refine ⟨b, o, cap - i, cur, ?_, g1, by omega, by omega, ?_, fun a q c hac => ?_⟩
      ·rw [← hv']; simp only [cutV, if_pos hci]
      ·have : (cap - i) * k ≤ cap * k := Nat.mul_le_mul_right k (by omega)
       omega
      ·have := rowC_lt hac
       rw [cutR_len hij hj] at this
       omega
     ·right
      refine ⟨b, o + i * k, cap - i, cur, ?_, g1, by omega, by omega, ?_, fun a q c hac => ?_⟩
      ·rw [← hv']; simp only [cutV, if_neg hci, Option.map_some, addr_off]
      ·have : i * k + (cap - i) * k = cap * k := by rw [← Nat.add_mul]; congr 1; omega
       omega
      ·have := g5 _ _ _ (rowC_cut hac)
       show cur[o + i * k + (a * k + q)]? = some (valCut val d i v' (d, 0) ((0, 0) :: (a, q) :: []))
       rw [hvo, show o + i * k + (a * k + q) = o + ((a + i) * k + q) by rw [Nat.add_mul]; omega]
       exact this
   ·have hno := h.mem.node (d, 0) _ _ _ hc h4
    exact hno.reval (va := fun p => val (d, 0) p) (va' := valCut val d i v' (d, 0)) fun z' => hvo a q (z ++ z')
  ·rw [hval key hk2]
   exact h.mem.node key cn p c hk3 h2
 ·rcases hcase _ key h1 with ⟨rfl, h2⟩ | ⟨hk1, hk2, hk3⟩
  ·cases h2
  ·rw [hval key hk2]; exact h.mem.root key t' xs' hk3
 ·rcases hown b key p h1 with ⟨rfl, rfl, k1⟩ | ⟨a1, q1, z1, rfl, rfl, k1⟩ | ⟨n1, k1⟩ <;> rcases hown b key' p' h2 with ⟨rfl, rfl, k2⟩ | ⟨a2, q2, z2, rfl, rfl, k2⟩ | ⟨n2, k2⟩
  ·exact ⟨rfl, rfl⟩
  ·have := (h.mem.inj b _ _ _ _ k1 k2).2; simp at this
  ·exact absurd (h.mem.inj b _ _ _ _ k1 k2).1.symm n2
  ·have := (h.mem.inj b _ _ _ _ k1 k2).2; simp at this
  ·have := (h.mem.inj b _ _ _ _ k1 k2).2
   simp only [List.cons.injEq, Prod.mk.injEq, true_and] at this
   obtain ⟨⟨g1, rfl⟩, rfl⟩ := this
   obtain rfl : a1 = a2 := by omega
   exact ⟨rfl, rfl⟩
  ·exact absurd (h.mem.inj b _ _ _ _ k1 k2).1.symm n2
  ·exact absurd (h.mem.inj b _ _ _ _ k1 k2).1 n1
  ·exact absurd (h.mem.inj b _ _ _ _ k1 k2).1 n1
  ·exact h.mem.inj b _ _ _ _ k1 k2
 ·rcases hown b key p ho with ⟨rfl, rfl, k1⟩ | ⟨a1, q1, z1, rfl, rfl, k1⟩ | ⟨n1, k1⟩ <;> exact (h.mem.sep b hb').2 _ _ k1
 ·rw [put_at (by rw [h.sz]; exact hd)]
  by_cases hs : s = d
  ·subst hs
   rw [if_pos rfl]
   have : (e.set s (.own false 1) (oneCon ⟨none, [.sl true t k (cutR rows i j)]⟩)).s s = .own false 1 := by simp [Env.set]
   rw [this]
   show TVok w S _ _ (.own false 1) v'
   exact ⟨⟨_, hcd⟩, rfl, hv0.symm⟩
  ·rw [if_neg hs]
   have : (e.set d (.own false 1) (oneCon ⟨none, [.sl true t k (cutR rows i j)]⟩)).s s = e.s s := by simp [Env.set, hs]
   rw [this]
   have hne : ∀ i, (s, i) ≠ (d, 0) := fun i hh => hs (by cases hh; rfl)
   refine (h.slot s).keep (fun _ h _ => h) hS (fun n => hcon _ hs) (fun n j => by rw [hval _ (hne n)]) (by rw [hval _ (hne 0)]) (gen_set d _ _) (fun r g p hg' hf => ?_)
   obtain ⟨hr, hf⟩ := fresh_set hg' hf
   exact ⟨hf, by rw [hval _ (fun hh => hr (by cases hh; rfl))]⟩
 ·rcases hown b key p ho with ⟨rfl, rfl, k1⟩ | ⟨a1, q1, z1, rfl, rfl, k1⟩ | ⟨n1, k1⟩ <;> exact h.low _ _ _ k1
 ·have hsd : s ≠ d := fun hh => by have : e.n ≤ s := hs; omega
  rw [hval _ (fun hh => hsd (by cases hh; rfl))]
  exact h.rts s hs
end
def bndQ (x : Option Operand) (k : Option Int → Q) : Q := match x with
 | none => k none
 | some x => opd x fun av => intQ av fun n => k (some n)
def bndOk (l h : Option Int) (n : Nat) : Prop := 0 ≤ l.getD 0 ∧ l.getD 0 ≤ h.getD n ∧ h.getD n ≤ (n : Int)
instance (l h : Option Int) (n : Nat) : Decidable (bndOk l h n) := inferInstanceAs (Decidable (_ ∧ _ ∧ _))
def cutB {α : Type} (rows : List α) (l h : Option Int) : List α := cutR rows (l.getD 0).toNat (h.getD rows.length).toNat
def sliceQ (P : Program) (nn : Nat) (d : Option Nat) (s : TypeId) (x : Operand) (lo hi : Option Operand) : Q := match tabOf P s with
 | none => .fail
 | some ti => match ti.elem with
  | none => .fail
  | some el => match tabOf P el with
   | none => .fail
   | some te => opd x fun av => bndQ lo fun l => bndQ hi fun h => match av with
    | .c (.sl _ t k rows) => if k = te.size ∧ bndOk l h rows.length then outQ nn d (.c (.sl false t k (cutB rows l h))) else .fail
    | .ref r g p ag m => match d with
     | none => .fail
     | some dd => if ag = false ∧ m = 1 ∧ dd ≠ r then .sub r g p fun c => (match c with
      | some (.sl true t k rows) => if t = el ∧ k = te.size ∧ bndOk l h rows.length then setQ nn (some dd) (holesU r p 1 ++ [.set dd (.own false 1) (oneCon ⟨none, [.sl true el te.size rows]⟩)]) (.own false 1) (oneCon ⟨none, [.sl true el te.size (cutB rows l h)]⟩) else .fail
      | _ => .fail) else .fail
    | _ => .fail
def mmQ (nn : Nat) (d : Option Nat) (mx : Bool) (x y : Operand) : Q := opd x fun av => opd y fun av2 => match av, av2 with
 | .c (.p (.int .i64 n)), .c (.p (.int .i64 m)) => outQ nn d (.c (.p (.int .i64 (if mx then max n m else min n m))))
 | _, _ => .fail
section
variable {P : Program} {nn : Nat} {o : Oper} {ct : Cts} {t : Option Stat} {e : Env} {K : Env → Prop} {w0 : Base} {a : Act} {w : World} {val : Val} {S : Nat → Prop} {Qx : Exit → Act → World → Prop}
theorem bndQ_run {x : Option Operand} {k : Option Int → Q} (h : qrun ct t (bndQ x k) e K) (hs : StV w0 e a w val S) : ∃ n, qrun ct t (k n) e K ∧ ((x.map a.eval = none ∧ n = none) ∨ ∃ kd m, x.map a.eval = some (.int kd m) ∧ n = some m) := by
 unfold bndQ at h
 split at h
 ·exact ⟨none, h, .inl ⟨rfl, rfl⟩⟩
 ·obtain ⟨av, h1, h2, -⟩ := opd_sv h hs
  obtain ⟨kd, n, rfl, h3⟩ := intQ_run h1
  exact ⟨some n, h3, .inr ⟨kd, n, by rw [Option.map_some, ro_p (h2 rfl 0)], rfl⟩⟩
theorem slice_run {s el : TypeId} {ti te : TI} (hti : tabOf P s = some ti) (hel0 : ti.elem = some el) (hte : tabOf P el = some te) {A : Option Addr} {len cap : Nat} {lo hi : Option Value} {l h : Option Int}
 (h1 : (lo = none ∧ l = none) ∨ ∃ kd m, lo = some (.int kd m) ∧ l = some m) (h2 : (hi = none ∧ h = none) ∨ ∃ kd m, hi = some (.int kd m) ∧ h = some m) (hb : bndOk l h len) (hlc : len ≤ cap) :
 (Instr.sliceAt s (.slice A len cap) lo hi none).run P w = .ok (cutV te.size (l.getD 0).toNat (h.getD len).toNat (.slice A len cap)) w := by
 obtain ⟨i, u, z, hi', hu, hz, hsz, hby, hzz, hzs, hz1, hag, hel, hfi, hone, hpos⟩ := tabOf_spec hti
 obtain ⟨i2, u2, z2, hi2, hu2, hz2, hsz2, -⟩ := tabOf_spec hte
 have hus : P.underlying s = some (.slice el) := by
  rw [hu]
  rw [hel0] at hel
  cases u <;> simp [descElem] at hel
  rw [hel]
 have hPe : P.elem s = el := by simp [Program.elem, hus]
 have hus' : P.underlying s = some (.slice (P.elem s)) := by rw [hPe]; exact hus
 have hso : (sizeOf (P.elem s)).run P w = .ok te.size w := by rw [hPe]; simp [sizeOf, typeInfo, hi2, hsz2]
 obtain ⟨b1, b2, b3⟩ := hb
 rw [run_sliceAt_slice w s _ _ _ _ hus']
 rcases h1 with ⟨rfl, rfl⟩ | ⟨kd, m, rfl, rfl⟩ <;> rcases h2 with ⟨rfl, rfl⟩ | ⟨kd2, m2, rfl, rfl⟩ <;> simp only [Option.getD_none, Option.getD_some] at b1 b2 b3 ⊢
 ·rw [run_slice_all w s A len cap hus', hso]; simp [Result.andThen, sliced, cutV]
 ·rw [run_slice_h w s A len cap hus' _ _ (by omega) (by omega), hso]; simp [Result.andThen, sliced, cutV]
 ·rw [run_slice_l w s A len cap hus' _ _ (by omega) (by omega), hso]; simp [Result.andThen, sliced, cutV]
 ·rw [run_slice_lh w s A len cap hus' _ _ _ _ (by omega) (by omega) (by omega), hso]; simp [Result.andThen, sliced, cutV]
theorem RO_cut {own : Bool} {t k i j : Nat} {rows : List (List C)} {v : Value} (h : RO w S (.sl own t k rows) v) (hij : i ≤ j) (hj : j ≤ rows.length) : RO w S (.sl false t k (cutR rows i j)) (cutV k i j v) := by
 have hlen := cutR_len hij hj
 cases h with
 | nil _ _ _ A cap hc =>
  have h0 : j = 0 := by simpa using hj
  subst h0
  obtain rfl : i = 0 := by omega
  exact .nil false t k _ _ (by omega)
 | sl _ _ _ _ b off cap us h1 h2 h3 h4 h5 h6 h7 =>
  by_cases h0 : i = j
  ·subst h0
   have : cutR rows i i = [] := List.eq_nil_of_length_eq_zero (by rw [hlen]; omega)
   rw [this, show cutV k i i (.slice (some ⟨b, off, none⟩) rows.length cap) = .slice (if cap = i then some ⟨b, off, none⟩ else (some ⟨b, off, none⟩ : Option Addr).map (·.add (i * k))) 0 (cap - i) by simp [cutV]]
   exact .nil false t k _ _ (by omega)
  ·rw [show cutV k i j (.slice (some ⟨b, off, none⟩) rows.length cap) = .slice (some ⟨b, off + i * k, none⟩) (cutR rows i j).length (cap - i) by
    simp only [cutV, if_neg (show cap ≠ i by omega), Option.map_some, addr_off, hlen]]
   refine .sl false t k _ b (off + i * k) (cap - i) (fun a q => us (a + i) q) (fun r hr => h1 r (cutR_mem hr)) (by omega) (by omega) h4 h5 (fun a q c hc => ?_) fun a q c hc => h7 _ _ _ (rowC_cut hc)
   have := h6 _ _ _ (rowC_cut hc)
   rwa [show off + (a + i) * k + q = off + i * k + a * k + q by rw [Nat.add_mul]; omega] at this
theorem bndOk.nat {l h : Option Int} {n : Nat} (hb : bndOk l h n) : (l.getD 0).toNat ≤ (h.getD n).toNat ∧ (h.getD n).toNat ≤ n := by
 obtain ⟨h1, h2, h3⟩ := hb; omega
theorem slice_sound {s : TypeId} {x : Operand} {lo hi : Option Operand} (ho : o.op = .slice s x lo hi none) : Sound P nn o (sliceQ P nn o.dst s x lo hi) := by
 intro ct t e K w0 a w Qx _ hn hq ⟨val, S, hs⟩
 unfold sliceQ at hq
 have hex : ∀ v' w', (Instr.sliceAt s (a.eval x) (lo.map a.eval) (hi.map a.eval) none).run P w = .ok v' w' → (execOp a.eval o).run P w = .ok (.value v') w' := fun v' w' hr => by
  unfold execOp
  simp [ho, hr, Result.andThen]
 split at hq
 ·exact hq.elim
 ·rename_i ti hti
  split at hq
  ·exact hq.elim
  ·rename_i el hel0
   split at hq
   ·exact hq.elim
   ·rename_i te hte
    obtain ⟨av, h1, h2, -⟩ := opd_sv hq hs
    obtain ⟨l, h3, hl⟩ := bndQ_run h1 hs
    obtain ⟨h, h4, hh⟩ := bndQ_run h3 hs
    split at h4
    ·rename_i own t1 k rows
     split at h4
     ·rename_i hc
      obtain ⟨rfl, hb⟩ := hc
      have hx : RO w S (.sl own t1 te.size rows) (a.eval x) := h2 rfl 0
      obtain ⟨A, cap, hA, hlc, -⟩ := hx.shape
      obtain ⟨n1, n2⟩ := hb.nat
      have hr := slice_run (w := w) hti hel0 hte hl hh (A := A) (cap := cap) hb hlc
      rw [← hA] at hr
      exact out_sound h4 hn hs (Below.refl _ _) (hex _ _ hr) fun _ => ⟨0, RO_cut hx n1 n2⟩
     ·exact h4.elim
    ·rename_i r g p ag m
     split at h4
     ·exact h4.elim
     ·rename_i dd hdd
      split at h4
      ·rename_i hc
       obtain ⟨rfl, rfl, hdr⟩ := hc
       have h4 := h4.2
       dsimp only at h4
       split at h4
       ·rename_i c tt k rows hsub
        split at h4
        ·rename_i hc
         obtain ⟨rfl, rfl, hb⟩ := hc
         obtain ⟨d, hd, hdn, hK⟩ := setQ_run h4
         cases hd
         obtain ⟨n1, n2⟩ := hb.nat
         obtain ⟨hf, cn, hcn, hlk⟩ := sub_spec hsub
         have hpn := look_ne hlk
         have hx := (h2 rfl 0).2 fun i hi => by
          have : i = 0 := by omega
          subst this
          rw [cellP_zero]; exact hf
         have hx := hx.2
         have hs1 := hs.take (d := dd) (cs := [.sl true tt te.size rows]) (ag := false) (v := a.eval x) (g := g) hpn hdr (by omega) hcn (fun i c hi => by
          cases i with
          | zero => cases hi; rw [cellP_zero]; exact hlk
          | succ i => simp at hi) (fun i hi => by
          have : i = 0 := by simpa using hi
          subst this
          rw [cellP_zero]; exact hf) (fun s => h2 rfl s) (fun _ => rfl)
         have hcd : ((e.holes r p 1).set dd (.own false 1) (oneCon ⟨none, [.sl true tt te.size rows]⟩)).con (dd, 0) = some ⟨none, [.sl true tt te.size rows]⟩ := by simp [Env.set, oneCon]
         have hdn2 : dd < ((e.holes r p 1).set dd (.own false 1) (oneCon ⟨none, [.sl true tt te.size rows]⟩)).n := by show dd < (e.holes r p 1).n; rw [holes_n]; omega
         have hs2 := hs1.cut hdn2 hcd n1 n2
         have hv1 : valTake val r p dd (dd, 0) [(0, 0)] = a.eval x := by
          unfold valTake
          rw [if_pos rfl]
          show val (r, 0) (cellP p 0 ++ []) = _
          rw [List.append_nil, cellP_zero, hx]
         rw [hv1] at hs2
         obtain ⟨A, cap, hA, hlc⟩ : ∃ A cap, a.eval x = .slice A rows.length cap ∧ rows.length ≤ cap := by
          obtain ⟨-, -, h0⟩ := hs.mem.node _ _ _ _ hcn hlk
          rw [hx]
          rcases h0 with ⟨rfl, h0⟩ | ⟨b, o2, cap, cur, h0, -, h5, -⟩
          ·exact ⟨_, _, h0, Nat.le_refl _⟩
          ·exact ⟨_, _, h0, h5⟩
         have hr := slice_run (w := w) hti hel0 hte hl hh (A := A) (cap := cap) hb hlc
         rw [← hA] at hr
         refine wp_value (hex _ _ hr) ⟨_, hK, ?_⟩
         rw [hdd, ← act_put2 (u := a.eval x), upds_append, upds_holes]
         exact ⟨_, _, hs2⟩
        ·exact h4.elim
       ·exact h4.elim
      ·exact h4.elim
    ·exact h4.elim
theorem mm_sound {x y : Operand} {ts : Array TypeId} {mx : Bool} (ho : o.op = .call { callee := .builtin (if mx then .max else .min), args := #[x, y], argTypes := ts }) : Sound P nn o (mmQ nn o.dst mx x y) := by
 intro ct t e K w0 a w Qx _ hn hq ⟨val, S, hs⟩
 unfold mmQ at hq
 obtain ⟨av, h1, h2, -⟩ := opd_sv hq hs
 obtain ⟨av2, h3, h4, -⟩ := opd_sv h1 hs
 split at h3
 ·rename_i n m
  refine out_sound h3 hn hs (Below.refl _ _) (w' := w) ?_ fun _ => ⟨0, RO.p _⟩
  have e1 : a.eval x = .int .i64 n := ro_p (h2 rfl 0)
  have e2 : a.eval y = .int .i64 m := ro_p (h4 rfl 0)
  unfold execOp
  cases mx with
  | true =>
   simp only [ho, if_true, resolve, invoke, builtin, Sem.run_bind, Sem.run_pure, Result.andThen_ok, List.map_toArray, List.map_cons, List.map_nil, e1, e2, run_max_int2, Result.andThen]
   congr 3
   split <;> omega
  | false =>
   simp only [ho, Bool.false_eq_true, if_false, resolve, invoke, builtin, Sem.run_bind, Sem.run_pure, Result.andThen_ok, List.map_toArray, List.map_cons, List.map_nil, e1, e2, run_min_int2, Result.andThen]
   congr 3
   split <;> omega
 ·exact h3.elim
end
end
section
open Go Go.RowKit
def Env.drops (e : Env) (s n : Nat) : Env := { e with con := fun key => if key.1 = s ∧ 1 ≤ key.2 ∧ key.2 ≤ n then none else e.con key }
def dropsU (s : Nat) : Nat → List Upd
 | 0 => []
 | n + 1 => dropsU s n ++ [.drop s n]
theorem upds_drops (s : Nat) (e : Env) : ∀ n, upds (dropsU s n) e = e.drops s n
 | 0 => by
  show e = _
  unfold Env.drops
  have : (fun key => if key.1 = s ∧ 1 ≤ key.2 ∧ key.2 ≤ 0 then none else e.con key) = e.con := by funext key; rw [if_neg (by omega)]
  rw [this]
 | n + 1 => by
  unfold dropsU
  rw [upds_append, upds_drops s e n]
  show (e.drops s n).drop s n = _
  unfold Env.drops Env.drop
  congr 1
  funext key
  obtain ⟨k1, k2⟩ := key
  dsimp only
  by_cases h : ((k1, k2) : CKey) = (s, n + 1)
  ·cases h; rw [if_pos rfl, if_pos ⟨rfl, by omega, by omega⟩]
  ·rw [if_neg h]
   by_cases h2 : k1 = s ∧ 1 ≤ k2 ∧ k2 ≤ n
   ·rw [if_pos h2, if_pos ⟨h2.1, h2.2.1, by omega⟩]
   ·rw [if_neg h2, if_neg]
    rintro ⟨rfl, h3, h4⟩
    rcases Nat.lt_or_ge k2 (n + 1) with h5 | h5
    ·exact h2 ⟨rfl, h3, by omega⟩
    ·exact h (by rw [show k2 = n + 1 by omega])
def tconsQ (s : Nat) : Nat → (List (Option Con) → Q) → Q
 | 0, k => k []
 | n + 1, k => tconsQ s n fun l => .tcon s n fun c => k (l ++ [c])
def listCon (l : List (Option Con)) : Nat → Option Con
 | 0 => none
 | i + 1 => (l[i]?).join
def mvQ (nn : Nat) (d : Option Nat) (x : Operand) : Q := match x with
 | .tmp s => .slot s fun av => match av with
  | .tup ts => if d ≠ some s then tconsQ s ts.length fun l => setQ nn d (dropsU s ts.length) (.tup ts) (listCon l) else .fail
  | av => outQ nn d av
 | x => moveQ nn d x
section
variable {P : Program} {nn : Nat} {o : Oper} {ct : Cts} {t : Option Stat} {e : Env} {K : Env → Prop} {w0 : Base} {a : Act} {w : World} {val : Val} {S : Nat → Prop} {Qx : Exit → Act → World → Prop}
theorem tconsQ_run {s : Nat} : ∀ (n : Nat) {k : List (Option Con) → Q}, qrun ct t (tconsQ s n k) e K → ∃ l, qrun ct t (k l) e K ∧ l.length = n ∧ ∀ i, i < n → (l[i]?).join = e.con (s, i + 1)
 | 0, k, h => ⟨[], h, rfl, fun i hi => absurd hi (by omega)⟩
 | n + 1, k, h => by
  obtain ⟨l, h1, h2, h3⟩ := tconsQ_run n h
  have h1 := h1.2
  refine ⟨_, h1, by simp [h2], fun i hi => ?_⟩
  rcases Nat.lt_or_ge i n with h4 | h4
  ·rw [List.getElem?_append_left (by omega)]; exact h3 i h4
  ·have : i = n := by omega
   subst this
   rw [List.getElem?_append_right (by omega), h2, Nat.sub_self]; rfl
theorem StV.moveTup (h : StV w0 e a w val S) {s d : Nat} {ts : List TV} {l : List (Option Con)} (hd : d < e.n) (hsd : d ≠ s) (hts : e.s s = .tup ts) (hl : l.length = ts.length) (hlc : ∀ i, i < ts.length → (l[i]?).join = e.con (s, i + 1)) :
 StV w0 ((e.drops s ts.length).set d (.tup ts) (listCon l)) (a.put (some d) (a.tmps.getD s undef)) w (fun key => if key.1 = d then val (s, key.2) else val key) S := by
 obtain ⟨nv, hnv⟩ : ∃ nv : Val, nv = fun key => if key.1 = d then val (s, key.2) else val key := ⟨_, rfl⟩
 rw [← hnv]
 obtain ⟨E1, hE1⟩ : ∃ E1, E1 = (e.drops s ts.length).set d (.tup ts) (listCon l) := ⟨_, rfl⟩
 rw [← hE1]
 have hcon : ∀ key cn', E1.con key = some cn' → (∃ i, i < ts.length ∧ key = (d, i + 1) ∧ e.con (s, i + 1) = some cn') ∨ (key.1 ≠ d ∧ ¬ (key.1 = s ∧ 1 ≤ key.2 ∧ key.2 ≤ ts.length) ∧ e.con key = some cn') := fun key cn' hk => by
  obtain ⟨k1, k2⟩ := key
  rw [hE1] at hk
  simp only [Env.set, Env.drops] at hk
  split at hk
  ·rename_i h1
   subst h1
   cases k2 with
   | zero => cases hk
   | succ i =>
    by_cases hi : i < ts.length
    ·have := hlc i hi
     rw [show listCon l (i + 1) = (l[i]?).join from rfl, this] at hk
     exact .inl ⟨i, hi, rfl, hk⟩
    ·rw [show listCon l (i + 1) = (l[i]?).join from rfl, List.getElem?_eq_none (by omega)] at hk
     cases hk
  ·rename_i h1
   split at hk
   ·cases hk
   ·rename_i h2; exact .inr ⟨h1, h2, hk⟩
 have hv0 : ∀ i, nv (d, i) = val (s, i) := fun i => by rw [hnv]; simp
 have hvn : ∀ key : CKey, key.1 ≠ d → nv key = val key := fun key hk => by rw [hnv]; simp only [if_neg hk]
 have hown : ∀ b key p, OwnB E1.con nv b key p → (∃ i, i < ts.length ∧ key = (d, i + 1) ∧ OwnB e.con val b (s, i + 1) p) ∨ (key.1 ≠ d ∧ ¬ (key.1 = s ∧ 1 ≤ key.2 ∧ key.2 ≤ ts.length) ∧ OwnB e.con val b key p) := fun b key p ho => by
  obtain ⟨cn', hcn'⟩ := ho.some
  rcases hcon key cn' hcn' with ⟨i, hi, rfl, hc⟩ | ⟨k1, k2, k3⟩
  ·refine .inl ⟨i, hi, rfl, ?_⟩
   rcases ho with ⟨h1, ⟨t, xs, h2⟩, h3⟩ | ⟨cn2, t, k, rows, n, cap, h1, h2, h3⟩
   ·rw [hcn'] at h2
    rw [hv0] at h3
    exact .inl ⟨h1, ⟨t, xs, hc.trans h2⟩, h3⟩
   ·rw [hcn'] at h1
    rw [hv0] at h3
    exact .inr ⟨cn2, t, k, rows, n, cap, hc.trans h1, h2, h3⟩
  ·exact .inr ⟨k1, k2, ho.con (by rw [k3, hcn']) (hvn key k1).symm⟩
 have hes : ∀ x, E1.s x = if x = d then .tup ts else e.s x := fun x => by rw [hE1]; rfl
 refine ⟨by rw [hE1]; simp [Act.put, Env.set, Env.drops, h.sz], h.defers, ⟨fun key cn' p c h1 h2 => ?_, fun key t xs h1 => ?_, fun b key p key' p' h1 h2 => ?_, fun b hb => ⟨(h.mem.sep b hb).1, fun key p ho => ?_⟩⟩, fun x => ?_, h.frm, fun b key p ho => ?_, fun x hx => ?_, h.sS⟩
 ·rcases hcon key cn' h1 with ⟨i, hi, rfl, hc⟩ | ⟨k1, k2, k3⟩
  ·rw [hv0]; exact h.mem.node _ _ _ _ hc h2
  ·rw [hvn key k1]; exact h.mem.node _ _ _ _ k3 h2
 ·rcases hcon key _ h1 with ⟨i, hi, rfl, hc⟩ | ⟨k1, k2, k3⟩
  ·rw [hv0]; exact h.mem.root _ t xs hc
  ·rw [hvn key k1]; exact h.mem.root _ t xs k3
 ·rcases hown _ _ _ h1 with ⟨i, hi, rfl, h3⟩ | ⟨k1, k2, h3⟩ <;> rcases hown _ _ _ h2 with ⟨j, hj, rfl, h4⟩ | ⟨k3, k4, h4⟩
  ·have := h.mem.inj _ _ _ _ _ h3 h4
   refine ⟨?_, this.2⟩
   have h5 := congrArg Prod.snd this.1
   simp only at h5
   rw [h5]
  ·have := (h.mem.inj _ _ _ _ _ h3 h4).1
   exact absurd (by rw [← this]; exact ⟨rfl, by simp, by simp; omega⟩) k4
  ·have := (h.mem.inj _ _ _ _ _ h3 h4).1
   exact absurd (by rw [this]; exact ⟨rfl, by simp, by simp; omega⟩) k2
  ·exact h.mem.inj _ _ _ _ _ h3 h4
 ·rcases hown _ _ _ ho with ⟨i, hi, rfl, h3⟩ | ⟨k1, k2, h3⟩
  ·exact (h.mem.sep b hb).2 _ _ h3
  ·exact (h.mem.sep b hb).2 _ _ h3
 ·rw [put_at (by rw [h.sz]; exact hd), hes]
  have hsv0 := h.slot s
  rw [hts] at hsv0
  by_cases hx : x = d
  ·subst hx
   rw [if_pos rfl, if_pos rfl]
   obtain ⟨vs, g1, g2, g3⟩ := hsv0
   refine ⟨vs, g1, g2, fun m tv hm => ?_⟩
   obtain ⟨u, g4, g5⟩ := g3 m tv hm
   refine ⟨u, g4, ?_⟩
   have hml : m < ts.length := (List.getElem?_eq_some_iff.1 hm).1
   have e2 : E1.con (x, m + 1) = e.con (s, m + 1) := by
    rw [hE1]
    simp only [Env.set, if_pos]
    exact hlc m hml
   rw [e2, hv0]; exact g5
  ·rw [if_neg hx, if_neg hx]
   have hsv := h.slot x
   have hcx : ∀ m, ¬ (x = s ∧ 1 ≤ m ∧ m ≤ ts.length) → E1.con (x, m) = e.con (x, m) := fun m hm => by rw [hE1]; simp only [Env.set, Env.drops, if_neg hx, if_neg hm]
   have hcn : ∀ m, (x = s ∧ 1 ≤ m ∧ m ≤ ts.length) → E1.con (x, m) = none := fun m hm => by rw [hE1]; simp only [Env.set, Env.drops, if_neg hx, if_pos hm]
   have hvx : ∀ m, nv (x, m) = val (x, m) := fun m => hvn _ hx
   cases hav : e.s x with
   | tup ts' =>
    rw [hav] at hsv
    obtain ⟨vs, g1, g2, g3⟩ := hsv
    refine ⟨vs, g1, g2, fun m tv hm => ?_⟩
    obtain ⟨u, g4, g5⟩ := g3 m tv hm
    refine ⟨u, g4, ?_⟩
    by_cases hmm : x = s ∧ 1 ≤ m + 1 ∧ m + 1 ≤ ts.length
    ·rw [hcn _ hmm]
     cases tv with
     | own ag' n' => exact .inl ⟨rfl, _, _, rfl⟩
     | c y => exact .inr (g5.resolve_left fun hh => by obtain ⟨-, _, _, hh⟩ := hh; cases hh)
     | agg ys => exact .inr (g5.resolve_left fun hh => by obtain ⟨-, _, _, hh⟩ := hh; cases hh)
    ·rw [hcx _ hmm, hvx]; exact g5
   | _ =>
    have hxs : x ≠ s := fun hh => by rw [hh, hts] at hav; cases hav
    rw [← hav]
    refine hsv.keep (fun _ h _ => h) (fun _ _ _ => rfl) (fun m => hcx m fun hh => hxs hh.1) (fun m j => by rw [hvx]) (by rw [hvx]) (fun r => by rw [hE1]; exact gen_set (e := e.drops s ts.length) _ _ _ r) (fun r g p hg hf => ?_)
    rw [hE1] at hf
    obtain ⟨k1, k2⟩ := fresh_set (e := e.drops s ts.length) hg hf
    exact ⟨k2, by rw [hvn (r, 0) k1]⟩
 ·rcases hown _ _ _ ho with ⟨i, hi, rfl, h3⟩ | ⟨k1, k2, h3⟩
  ·exact h.low _ _ _ h3
  ·exact h.low _ _ _ h3
 ·have hx : e.n ≤ x := by rw [hE1] at hx; exact hx
  rw [hvn (x, 0) (fun he => by have he : x = d := he; omega)]
  exact h.rts x hx
theorem mv_sound {x : Operand} (ho : o.op = .move x) : Sound P nn o (mvQ nn o.dst x) := by
 unfold mvQ
 split
 ·rename_i s
  intro ct t e K w0 a w Qx hct hn hq ⟨val, S, hs⟩
  have h1 := hq.2
  dsimp only at h1
  split at h1
  ·rename_i ts hv
   split at h1
   ·rename_i hds
    obtain ⟨l, h2, h3, h4⟩ := tconsQ_run _ h1
    obtain ⟨d, hd, hdn, hK⟩ := setQ_run h2
    have hes : e.s s = .tup ts := by
     unfold Env.view at hv
     split at hv <;> first | (cases hv; done) | exact hv
    rw [upds_drops] at hK
    refine wp_value (v := a.tmps.getD s undef) (w' := w) ?_ ⟨_, hK, (fun key => if key.1 = d then val (s, key.2) else val key), S, ?_⟩
    ·unfold execOp; rw [ho]; rfl
    ·rw [hd]
     exact hs.moveTup (by omega) (fun he => hds (by rw [hd, he])) hes h3 h4
   ·exact h1.elim
  ·rename_i hne
   refine move_sound (.inl ho) ct t e K w0 a w Qx hct hn ?_ ⟨val, S, hs⟩
   unfold moveQ
   exact ⟨hq.1, h1⟩
 ·exact move_sound (.inl ho)
end
end
section
open Go Go.RowKit
def boxOQ (P : Program) (nn : Nat) (d : Option Nat) (t : TypeId) (x : Operand) : Q := match tabOf P t with
 | none => .fail
 | some ti => opd x fun av => match cellsOf ti.agg av with
  | some xs => setQ nn d [] .box (oneCon ⟨some t, xs⟩)
  | none => match d with
   | none => .fail
   | some d => match av with
    | .ref s g p ag n => if d < nn ∧ s ≠ d ∧ ag = ti.agg ∧ n = ti.size ∧ (ag = false → n = 1) then subsQ s g p n fun cs => if cs.all C.one = true then .ups (.set d .box (oneCon ⟨some t, List.replicate n .hole⟩) :: graftU s p d [(0, 0)] 0 cs) else .fail else .fail
    | _ => .fail
section
variable {P : Program} {nn : Nat} {o : Oper} {ct : Cts} {t : Option Stat} {e : Env} {K : Env → Prop} {w0 : Base} {a : Act} {w : World} {val : Val} {S : Nat → Prop} {Qx : Exit → Act → World → Prop}
theorem boxO_sound {ty : TypeId} {x : Operand} (ho : o.op = .box ty x) : Sound P nn o (boxOQ P nn o.dst ty x) := by
 intro ct t e K w0 a w Qx _ hn hq ⟨val, S, hs⟩
 unfold boxOQ at hq
 split at hq
 ·exact hq.elim
 ·rename_i ti hti
  obtain ⟨i, u, z, hi, hu, hz, hsz, hby, hzz, hzs, hz1, hag0, hel, hfi, hone0, hpos⟩ := tabOf_spec hti
  have hrun : (execOp a.eval o).run P w = .ok (.value (.pointer (some ⟨w.heap.size, 0, none⟩))) (w.alloc (.cells (a.eval x).cells ty)) := by
   unfold execOp
   simp only [ho, Instr.box, Sem.run_bind, Result.andThen_ok, newVar, newRow, run_newObj, Sem.run_pure]
   rfl
  obtain ⟨av, h1, h2, -⟩ := opd_sv hq hs
  split at h1
  ·rename_i xs hxs
   obtain ⟨h3, h4, -⟩ := cellsOf_spec hxs fun hp => h2 hp 0
   obtain ⟨d, hd, hdn, hK⟩ := setQ_run h1
   obtain ⟨val', S', h5, -⟩ := hs.newBox (t := ty) (by omega : d < e.n) h3 h4
   exact wp_value hrun ⟨_, hK, val', S', by rw [hd]; exact h5⟩
  ·split at h1
   ·exact h1.elim
   ·rename_i d hd
    split at h1
    ·rename_i s g p ag n hnone
     split at h1
     ·rename_i hh
      obtain ⟨hdn, hsd, rfl, rfl, hag1⟩ := hh
      obtain ⟨cs, g5, g6, g7⟩ := subsQ_run _ h1
      split at g7
      ·rename_i hall
       have hK := g7.2
       obtain ⟨hp2, cn2, k5, k6, k7⟩ := subs_spec (by omega) g6
       obtain ⟨-, hv2⟩ := h2 rfl 0
       have hv2 := hv2 fun i hi => k6 i (by omega)
       have hvs : ∃ vs : Array Value, (a.eval x).cells = vs ∧ vs.size = ti.size ∧ ∀ i, i < ti.size → vs[i]? = some (val (s, 0) (cellP p i)) := by
        cases hagv : ti.agg with
        | false =>
         rw [hagv] at hv2
         obtain ⟨hn1, hv3⟩ := hv2
         have hone2 : (a.eval x).oneCell' = true ∧ (a.eval x).cells = #[a.eval x] := by
          have hc00 : 0 < cs.length := by omega
          have hc0 := k7 0 cs[0] (List.getElem?_eq_getElem hc00)
          have hno := hs.mem.node _ _ _ _ k5 hc0
          rw [cellP_zero] at hno
          rw [hv3]
          exact node_one hno (List.all_eq_true.1 hall _ (List.getElem_mem _))
         refine ⟨#[a.eval x], hone2.2, by simp; omega, fun i hi => ?_⟩
         have : i = 0 := by omega
         subst this
         rw [cellP_zero, ← hv3]; rfl
        | true =>
         rw [hagv] at hv2
         obtain ⟨vs, hv3, hv4, hv5⟩ := hv2
         exact ⟨vs, by rw [hv3]; rfl, hv4, hv5⟩
       obtain ⟨vs, hvs1, hvs2, hvs3⟩ := hvs
       obtain ⟨val', S', k1, k2, k3⟩ := hs.newBox (t := ty) (xs := List.replicate ti.size .hole) (vs := vs) (by omega : d < e.n) (fun y hy => by rw [(List.mem_replicate.1 hy).2]; rfl) ⟨by simp [hvs2], fun i y hy => by
        rw [List.getElem?_replicate] at hy
        split at hy
        ·rename_i hi; cases hy; exact ⟨_, hvs3 i hi, .hole _⟩
        ·cases hy⟩
       have hc2 : (e.set d .box (oneCon ⟨some ty, List.replicate ti.size .hole⟩)).con (d, 0) = some ⟨some ty, List.replicate ti.size .hole⟩ := by simp [Env.set, oneCon]
       have hc1 : (e.set d .box (oneCon ⟨some ty, List.replicate ti.size .hole⟩)).con (s, 0) = some cn2 := by simp only [Env.set, if_neg hsd]; exact k5
       obtain ⟨val'', k4⟩ := grafts_run hsd hp2 (by simp : ([(0, 0)] : Path) ≠ []) cs 0 _ val' cn2 _ k1 hc1 hc2 fun m c hm => by
        have hml : m < ti.size := by have := (List.getElem?_eq_some_iff.1 hm).1; omega
        rw [Nat.zero_add]
        refine ⟨k7 m c hm, by rw [cellP00, look_one, List.getElem?_replicate, if_pos hml], ?_⟩
        rw [cellP00, k3, k2 (s, 0) hsd, Array.getD_eq_getD_getElem?, hvs3 m hml]; rfl
       have hK2 : upds (.set d .box (oneCon ⟨some ty, List.replicate ti.size .hole⟩) :: graftU s p d [(0, 0)] 0 cs) e = (e.set d .box (oneCon ⟨some ty, List.replicate ti.size .hole⟩)).grafts s p d [(0, 0)] 0 cs := upds_grafts s p d [(0, 0)] cs 0 _
       rw [hK2] at hK
       rw [hvs1] at hrun
       exact wp_value hrun ⟨_, hK, val'', S', by rw [hd]; exact k4⟩
      ·exact g7.elim
     ·exact h1.elim
    ·exact h1.elim
end
end
section
open Go Go.RowKit
def opQ (P : Program) (nn : Nat) (o : Oper) : Q := match o.op with
 | .move x => mvQ nn o.dst x
 | .assign x => assignQ nn o.dst x
 | .pick c x y => pickQ nn o.dst c x y
 | .alloc t => allocQ P nn o.dst t
 | .box t x => boxOQ P nn o.dst t x
 | .load t x => loadQ P nn o.dst t x
 | .store t x v => storeQ P o.dst t x v
 | .binOp op ty x y _ => binQ P nn o.dst op ty x y
 | .unOp op _ x => unQ nn o.dst op x
 | .fieldAddr s x f => fieldAddrQ P nn o.dst s x f
 | .indexAddr s x i => indexAddrQ P nn o.dst s x i
 | .makeSlice t l c => makeQ P nn o.dst t l c
 | .extract x i => extractQ nn o.dst x i
 | .build t ps => buildQ P nn o.dst t ps.toList
 | .call ⟨.value (.func f), args, _⟩ => callQ P nn o.dst f args.toList
 | .call ⟨.builtin .len, ⟨[x]⟩, ⟨[s]⟩⟩ => lenQ P nn o.dst s x
 | .call ⟨.value (.tmp s), args, _⟩ => fnCallQ P nn o.dst s args.toList
 | .makeFunc (.func g) ⟨[]⟩ caps => mkFnQ nn o.dst g caps.toList
 | .buildSlice t n ps => bsQ P nn o.dst t n ps.toList
 | .call ⟨.builtin .append, ⟨[x, y]⟩, ⟨[s, s']⟩⟩ => if s = s' then appendQ P nn o.dst s x y else .fail
 | .slice s x lo hi none => sliceQ P nn o.dst s x lo hi
 | .call ⟨.builtin .min, ⟨[x, y]⟩, _⟩ => mmQ nn o.dst false x y
 | .call ⟨.builtin .max, ⟨[x, y]⟩, _⟩ => mmQ nn o.dst true x y
 | _ => .fail
def guardQ (av : AV) (k : Option Bool → Q) : Q := match av with
 | .c (.p (.bool b)) => k (some b)
 | .c (.p (.tuple _)) => k none
 | _ => .fail
def skipQ (nn : Nat) (d : Option Nat) : Q := match d with
 | some d => setQ nn (some d) [] (.c (.p (.tuple #[]))) noCon
 | none => .ups []
def gQ (P : Program) (nn : Nat) (ds : List (Option Nat)) (o : Oper) : Q := match o.guard with
 | none => opQ P nn o
 | some (j, want) => match ds[j]? with
  | none => .fail
  | some none => .fail
  | some (some dj) => .slot dj fun av => guardQ av fun b => if b = some want then opQ P nn o else skipQ nn o.dst
section
variable {P : Program} {nn : Nat} {o : Oper} {ct : Cts} {t : Option Stat} {e : Env} {K : Env → Prop} {w0 : Base} {a : Act} {w : World} {val : Val} {S : Nat → Prop} {Qx : Exit → Act → World → Prop}
theorem extract_sound {x : Operand} {i : Nat} (ho : o.op = .extract x i) : Sound P nn o (extractQ nn o.dst x i) := by
 intro ct t e K w0 a w Qx _ hn hq ⟨val, S, hs⟩
 unfold extractQ at hq
 split at hq
 ·rename_i s
  have h1 := hq.2
  dsimp only at h1
  split at h1
  ·rename_i ts hts
   have hes : e.s s = .tup ts := by
    unfold Env.view at hts
    split at hts <;> first | (cases hts; done) | exact hts
   have hsv := hs.slot s
   rw [hes] at hsv
   obtain ⟨vs, hvs, hsz, hcomp⟩ := hsv
   have hex : ∀ u, vs[i]? = some u → (execOp a.eval o).run P w = .ok (.value u) w := fun u hu => by
    unfold execOp
    have : a.eval (.tmp s) = .tuple vs := hvs
    simp only [ho, this, Instr.extract, hu, Sem.run_bind, Sem.run_pure, Result.andThen_ok]
   split at h1
   ·rename_i y hy
    obtain ⟨u, h2, h3⟩ := hcomp i _ hy
    have h3 : RO w S y u := h3.resolve_left fun hh => by obtain ⟨-, _, _, hh⟩ := hh; cases hh
    exact out_sound h1 hn hs (Below.refl _ _) (hex u h2) fun _ => ⟨0, h3⟩
   ·rename_i ys hy
    obtain ⟨u, h2, h3⟩ := hcomp i _ hy
    have h3 := h3.resolve_left fun hh => by obtain ⟨-, _, _, hh⟩ := hh; cases hh
    exact out_sound h1 hn hs (Below.refl _ _) (hex u h2) fun _ => ⟨0, h3⟩
   ·rename_i ag n hy
    obtain ⟨u, h2, h3⟩ := hcomp i _ hy
    split at h1
    ·rename_i hds
     have h4 := h1.2
     dsimp only at h4
     split at h4
     ·rename_i cn hcn
      obtain ⟨d, hd, hdn, hK⟩ := setQ_run h4
      have h5 := h3.resolve_left fun hh => by rw [hcn] at hh; cases hh.1
      rw [hcn] at h5
      refine wp_value (hex u h2) ⟨_, hK, (fun key => if key.1 = d then (if key.2 = 0 then val (s, i + 1) else val key) else val key), S, ?_⟩
      rw [hd]
      exact hs.extract (by omega) (fun he => hds (by rw [hd, he])) hcn h5
     ·exact h4.elim
    ·exact h1.elim
   ·exact h1.elim
  ·exact h1.elim
 ·exact hq.elim
theorem fail_sound : Sound P nn o .fail := fun _ _ _ _ _ _ _ _ _ _ hq _ => hq.elim
theorem op_sound (P : Program) (nn : Nat) (o : Oper) : Sound P nn o (opQ P nn o) := by
 unfold opQ
 split
 ·rename_i x ho; exact mv_sound ho
 ·rename_i x ho; exact assign_sound (.inl ho)
 ·rename_i ho; exact pick_sound ho
 ·rename_i ho; exact alloc_sound ho
 ·rename_i ho; exact boxO_sound ho
 ·rename_i ho; exact load_sound ho
 ·rename_i t x v ho; exact store_sound (ty2 := 0) ho
 ·rename_i ho; exact bin_sound ho
 ·rename_i ho; exact un_sound ho
 ·rename_i ho; exact fieldAddr_sound ho
 ·rename_i ho; exact indexAddr_sound ho
 ·rename_i ho; exact make_sound ho
 ·rename_i ho; exact extract_sound ho
 ·rename_i ho; exact build_sound ho
 ·rename_i ho; exact call_sound ho
 ·rename_i ho; exact len_sound ho
 ·rename_i ho; exact fnCall_sound ho
 ·rename_i ho; exact mkFn_sound ho
 ·rename_i ho; exact bs_sound ho
 ·rename_i x y s s' ho
  split
  ·rename_i hs; subst hs; exact append_sound ho
  ·exact fail_sound
 ·rename_i ho; exact slice_sound ho
 ·rename_i ho; exact mm_sound (mx := false) ho
 ·rename_i ho; exact mm_sound (mx := true) ho
 ·exact fail_sound
def dsts (ops : Array Oper) : List (Option Nat) := ops.toList.map fun o => o.dst
theorem guardQ_run {av : AV} {k : Option Bool → Q} (h : qrun ct t (guardQ av k) e K) : ∃ b v, av = .c (.p v) ∧ ((∃ b', b = some b' ∧ v = .bool b') ∨ ∃ a, b = none ∧ v = .tuple a) ∧ qrun ct t (k b) e K := by
 unfold guardQ at h
 split at h
 ·exact ⟨_, _, rfl, .inl ⟨_, rfl, rfl⟩, h⟩
 ·exact ⟨_, _, rfl, .inr ⟨_, rfl, rfl⟩, h⟩
 ·exact h.elim
theorem gQ_sound {ops : Array Oper} {i : Nat} (ho : ops[i]? = some o) (hct : ∀ f ro args Post, ct f ro args Post → XCalls P f ro args Post) (hn : e.n = nn) (hq : qrun ct t (gQ P nn (dsts ops) o) e K) (hs : St w0 e a w) :
 wpOp P ops Qx i (fun a' w' => ∃ e', K e' ∧ St w0 e' a' w') a w := by
 unfold wpOp
 simp only [ho]
 unfold gQ at hq
 split at hq
 ·rename_i hg
  have : Region.wanted o (yielded ops a.tmps) = true := by simp [Region.wanted, hg]
  rw [if_pos this]
  exact .inl (op_sound P nn o ct t e K w0 a w Qx hct hn hq hs)
 ·rename_i j want hg
  split at hq
  ·exact hq.elim
  ·exact hq.elim
  ·rename_i dj hdj0
   have hdj : (ops[j]?).bind (·.dst) = some dj := by
    unfold dsts at hdj0
    simp only [List.getElem?_map, Array.getElem?_toList, Option.map_eq_some_iff] at hdj0
    obtain ⟨o', h1, h2⟩ := hdj0
    rw [h1]; exact h2
   obtain ⟨val, S, hst⟩ := hs
   have hq2 := hq.2
   obtain ⟨b, v, hb, hbv, h1⟩ := guardQ_run hq2
   have hv := view_sv hst dj 0 (by rw [hb]; rfl)
   rw [hb] at hv
   have hv : a.tmps.getD dj undef = v := ro_p hv
   have hw : Region.wanted o (yielded ops a.tmps) = decide (b = some want) := by
    unfold Region.wanted
    rw [hg]
    dsimp only
    unfold yielded
    rw [hdj]
    simp only [Option.bind_some]
    rw [Array.getD_eq_getD_getElem?] at hv
    rcases hbv with ⟨b', rfl, rfl⟩ | ⟨a', rfl, rfl⟩
    ·cases ht : a.tmps[dj]? with
     | none => rw [ht] at hv; cases hv
     | some u =>
      rw [ht] at hv
      simp only [Option.getD_some] at hv
      subst hv
      dsimp only
      cases b' <;> cases want <;> rfl
    ·cases ht : a.tmps[dj]? with
     | none => rfl
     | some u =>
      rw [ht] at hv
      simp only [Option.getD_some] at hv
      subst hv
      rfl
   split at h1
   ·rename_i hbw
    have : Region.wanted o (yielded ops a.tmps) = true := by rw [hw]; simpa using hbw
    rw [if_pos this]
    exact .inl (op_sound P nn o ct t e K w0 a w Qx hct hn h1 ⟨val, S, hst⟩)
   ·rename_i hbw
    have : ¬ Region.wanted o (yielded ops a.tmps) = true := by rw [hw]; simpa using hbw
    rw [if_neg this]
    unfold skipQ at h1
    split at h1
    ·rename_i d hd
     obtain ⟨d', hd', hdn, hK⟩ := setQ_run h1
     cases hd'
     refine ⟨_, hK, val, S, ?_⟩
     rw [hd]
     exact hst.setP (by omega) (Below.refl _ _) (RO.p _)
    ·rename_i hd
     refine ⟨e, h1.2, val, S, ?_⟩
     rw [hd]; exact hst
def arun (P : Program) (nn : Nat) (ct : Nat → Cts) (t : Nat → Option Stat) (ops : Array Oper) : List Nat → Env → (Env → Prop) → Prop
 | [], e, K => K e
 | i :: l, e, K => match ops[i]? with
  | some o => qrun (ct i) (t i) (gQ P nn (dsts ops) o) e fun e' => arun P nn ct t ops l e' K
  | none => False
theorem upd_n (u : Upd) (e : Env) : (u.on e).n = e.n := by cases u <;> rfl
theorem upds_n : ∀ (us : List Upd) (e : Env), (upds us e).n = e.n
 | [], _ => rfl
 | u :: us, e => (upds_n us (u.on e)).trans (upd_n u e)
theorem qrun_n : ∀ (q : Q) (e : Env), qrun ct t q e K → qrun ct t q e (fun e' => K e' ∧ e'.n = e.n)
 | .fail, _, h => h
 | .slot s k, e, h => ⟨h.1, qrun_n _ e h.2⟩
 | .hd r g p k, e, h => ⟨h.1, qrun_n _ e h.2⟩
 | .cell r g p kk k, e, h => ⟨h.1, qrun_n _ e h.2⟩
 | .sub r g p k, e, h => ⟨h.1, qrun_n _ e h.2⟩
 | .tcon s i k, e, h => ⟨h.1, qrun_n _ e h.2⟩
 | .whole r g k, e, h => ⟨h.1, qrun_n _ e h.2⟩
 | .alt x y, e, h => h.imp (qrun_n x e) fun h => ⟨h.1, qrun_n y e h.2⟩
 | .ups us, e, h => ⟨h.1, h.2, upds_n us e⟩
 | .call f ro args us, e, h => let ⟨Post, h1, h2⟩ := h; ⟨Post, h1, fun r hr => ⟨(h2 r hr).1, (h2 r hr).2, upds_n _ e⟩⟩
def waitsB (ops : Array Oper) : Nat → Nat → Nat → Bool
 | 0, _, _ => false
 | f + 1, i, j => Region.waitsFor .any ops i j || (List.range i).any fun k => Region.waitsFor .any ops i k && waitsB ops f k j
def Closed (ops : Array Oper) (listed : Array Bool) : Prop := ∀ j k, listed.getD j false = true → Region.waitsFor .any ops j k = true → listed.getD k false = true
theorem waitsB_listed {ops : Array Oper} {listed : Array Bool} (hc : Closed ops listed) : ∀ (f i j : Nat), waitsB ops f i j = true → (∀ k, Region.waitsFor .any ops i k = true → listed.getD k false = true) → listed.getD j false = true
 | 0, _, _, h, _ => by cases h
 | f + 1, i, j, h, hi => by
  unfold waitsB at h
  rw [Bool.or_eq_true] at h
  rcases h with h | h
  ·exact hi j h
  ·obtain ⟨k, -, hk⟩ := List.any_eq_true.1 h
   rw [Bool.and_eq_true] at hk
   have hkl := hi k hk.1
   exact waitsB_listed hc f k j hk.2 fun m hm => hc k m hkl hm
def regB (ops : Array Oper) (st : Nat → Stat) : Bool := (List.range ops.size).all fun i => ((List.range i).all fun j => waitsB ops ops.size i j || (st i).apart (st j)) && ((ops[i]?).map fun o => o.after.all fun e => !Region.binds .any e || decide (e.on < i)).getD false
theorem ready_waits {ops : Array Oper} {listed : Array Bool} {i : Nat} (h : i ∈ Region.ready .any ops listed) : ∀ k, Region.waitsFor .any ops i k = true → listed.getD k false = true := fun k hk => by
 obtain ⟨oj, hoj, ed, hed, hb, hon⟩ := Region.waitsFor_spec hk
 obtain ⟨-, o, ho, hall⟩ := mem_ready.1 h
 rw [hoj] at ho
 cases ho
 rw [← hon]
 exact hall ed hed hb
theorem arun_front {ctn : Nat → Cts} {st : Nat → Stat} {ops : Array Oper} {i : Nat} (h1 : ∀ j, OneCt (ctn j)) (h2 : ∀ j, SomeCt (ctn j)) : ∀ (l1 l2 : List Nat) (e : Env), (∀ j ∈ l1, (st i).apart (st j) = true) → arun P nn ctn (fun j => some (st j)) ops (l1 ++ i :: l2) e K → arun P nn ctn (fun j => some (st j)) ops (i :: (l1 ++ l2)) e K
 | [], l2, e, _, h => h
 | j :: l1, l2, e, ha, h => by
  rw [List.cons_append] at h
  unfold arun at h
  cases ho : ops[j]? with
  | none => rw [ho] at h; exact h.elim
  | some oj =>
   rw [ho] at h
   have h3 := qrun_mono (fun e' he' => arun_front h1 h2 l1 l2 e' (fun k hk => ha k (by simp [hk])) he') _ h
   cases hi : ops[i]? with
   | none =>
    obtain ⟨O, hO, hK⟩ := (qrun_out _).1 h3
    obtain ⟨us, hus⟩ := hO.some (h2 j)
    have := (hK us hus).2
    unfold arun at this
    rw [hi] at this
    exact this.elim
   | some oi =>
    have h4 : qrun (ctn j) (some (st j)) (gQ P nn (dsts ops) oj) e (fun e' => qrun (ctn i) (some (st i)) (gQ P nn (dsts ops) oi) e' (fun e'' => arun P nn ctn (fun j => some (st j)) ops (l1 ++ l2) e'' K)) := by
     refine qrun_mono (fun e' he' => ?_) _ h3
     unfold arun at he'
     rw [hi] at he'
     exact he'
    have h5 := qrun_swap (ha j (by simp)) (h1 i) (h2 j) h4
    unfold arun
    rw [hi]
    refine qrun_mono (fun e' he' => ?_) _ h5
    rw [List.cons_append]
    unfold arun
    rw [ho]
    exact he'
theorem wpAny_arun {ctn : Nat → Cts} {st : Nat → Stat} {ops : Array Oper} (hct : ∀ i f ro args Post, ctn i f ro args Post → XCalls P f ro args Post) (h1 : ∀ j, OneCt (ctn j)) (h2 : ∀ j, SomeCt (ctn j)) (hreg : regB ops st = true) (hQ : ∀ e a w, K e → St w0 e a w → Qx .normal a w) :
 ∀ (fuel : Nat) (listed : Array Bool) (rem : List Nat) (e : Env) (a : Act) (w : World), fuel = rem.length → listed.size = ops.size → rem.Pairwise (· < ·) → (∀ j, j ∈ rem ↔ j < ops.size ∧ listed.getD j true = false) → Closed ops listed →
  arun P nn ctn (fun j => some (st j)) ops rem e K → e.n = nn → St w0 e a w → wpAny P .any ops Qx fuel listed a w := by
 have hregi : ∀ i, i < ops.size → (∀ j, j < i → waitsB ops ops.size i j = true ∨ (st i).apart (st j) = true) ∧ ∀ k, Region.waitsFor .any ops i k = true → k < i := fun i hi => by
  have h3 := List.all_eq_true.1 hreg i (List.mem_range.2 hi)
  rw [Bool.and_eq_true] at h3
  refine ⟨fun j hj => by simpa using List.all_eq_true.1 h3.1 j (List.mem_range.2 hj), fun k hk => ?_⟩
  obtain ⟨oj, hoj, ed, hed, hb, hon⟩ := Region.waitsFor_spec hk
  have h4 := h3.2
  rw [hoj] at h4
  simp only [Option.map_some, Option.getD_some] at h4
  have h5 := Array.all_eq_true_iff_forall_mem.1 h4 ed hed
  rw [hb] at h5
  simp at h5
  omega
 intro fuel
 induction fuel with
 | zero =>
  intro listed rem e a w hf hsz hp hm hc har hn hs
  have hrem : rem = [] := List.eq_nil_of_length_eq_zero hf.symm
  subst hrem
  refine ⟨?_, hQ e a w har hs⟩
  apply List.eq_nil_iff_forall_not_mem.2
  intro i hi
  obtain ⟨h3, o, ho, -⟩ := mem_ready.1 hi
  have := (hm i).2 ⟨(Array.getElem?_eq_some_iff.1 ho).1, h3⟩
  cases this
 | succ fuel ih =>
  intro listed rem e a w hf hsz hp hm hc har hn hs
  have hlisted : ∀ k, k < ops.size → k ∉ rem → listed.getD k false = true := fun k hk hkr => by
   have : ¬ listed.getD k true = false := fun hh => hkr ((hm k).2 ⟨hk, hh⟩)
   have hks : k < listed.size := by omega
   simp [hks] at this ⊢
   exact this
  refine ⟨fun hr => ?_, fun i hi => ?_⟩
  ·-- the first one that is left may come up
   cases rem with
   | nil => simp at hf
   | cons i rem =>
    exfalso
    obtain ⟨hil, hiu⟩ := (hm i).1 (by simp)
    have : i ∈ Region.ready .any ops listed := mem_ready.2 ⟨hiu, ops[i], Array.getElem?_eq_getElem hil, fun ed hed hb => by
     have hw : Region.waitsFor .any ops i ed.on = true := by
      unfold Region.waitsFor
      rw [Array.getElem?_eq_getElem hil]
      exact Array.any_eq_true'.2 ⟨ed, hed, by simp [hb]⟩
     have hlt := (hregi i hil).2 _ hw
     refine hlisted _ (by omega) fun hmem => ?_
     rcases List.mem_cons.1 hmem with h3 | h3
     ·omega
     ·have := (List.pairwise_cons.1 hp).1 _ h3
      omega⟩
    rw [hr] at this
    cases this
  ·obtain ⟨hiu, o, ho, -⟩ := mem_ready.1 hi
   have hil := (Array.getElem?_eq_some_iff.1 ho).1
   have hir : i ∈ rem := (hm i).2 ⟨hil, hiu⟩
   obtain ⟨l1, l2, rfl⟩ := List.append_of_mem hir
   have hlt : ∀ j ∈ l1, j < i := fun j hj => (List.pairwise_append.1 hp).2.2 j hj i (by simp)
   have hap : ∀ j ∈ l1, (st i).apart (st j) = true := fun j hj => by
    rcases (hregi i hil).1 j (hlt j hj) with h3 | h3
    ·have h4 := waitsB_listed hc _ i j h3 (ready_waits hi)
     have h5 := ((hm j).1 (by simp [hj])).2
     have hjs : j < listed.size := by have := ((hm j).1 (by simp [hj])).1; omega
     simp [hjs] at h4 h5
     rw [h4] at h5
     cases h5
    ·exact h3
   have h6 := arun_front h1 h2 l1 l2 e hap har
   unfold arun at h6
   rw [ho] at h6
   refine wpOp_mono ?_ (gQ_sound ho (hct i) hn (qrun_n _ _ h6) hs)
   rintro a' w' ⟨e', ⟨h7, h8⟩, h9⟩
   have hnd : ∀ j, j ∈ l1 ++ l2 → j ≠ i := fun j hj he => by
    subst he
    rcases List.mem_append.1 hj with h10 | h10
    ·have := hlt j h10; omega
    ·have := (List.pairwise_cons.1 (List.pairwise_append.1 hp).2.1).1 j h10; omega
   refine ih (listed.setIfInBounds i true) (l1 ++ l2) e' a' w' ?_ (by simp [hsz]) ?_ (fun j => ?_) (fun j k hj hk => ?_) h7 (h8.trans hn) h9
   ·simp at hf ⊢; omega
   ·exact hp.sublist (List.Sublist.append_left (List.sublist_cons_self _ _) _)
   ·by_cases hji : j = i
    ·subst hji
     refine ⟨fun hh => absurd rfl (hnd j hh), fun hh => ?_⟩
     have hjs : j < listed.size := by omega
     simp [hjs] at hh
    ·rw [getD_set_ne true (Ne.symm hji), ← hm j]
     simp [hji]
   ·by_cases hji : j = i
    ·subst hji
     exact getD_set_true (ready_waits hi k hk)
    ·rw [getD_set_ne false (Ne.symm hji)] at hj
     exact getD_set_true (hc j k hj hk)
end
end
end Go.Proofs.YtdiiggpohcjppaaGreat
