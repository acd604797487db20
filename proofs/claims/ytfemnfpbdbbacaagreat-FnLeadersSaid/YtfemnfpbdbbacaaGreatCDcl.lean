/- The end of a slice of numbers of one's own is cleared: over data. -/
import Derived.Test.YtfemnfpbdbbacaaGreatCDso
import Derived.Test.YtfemnfpbdbbacaaGreatCJn11
import Derived.Laws.IdiomCopy
set_option linter.unusedSimpArgs false
set_option linter.unusedVariables false
namespace Go.Proofs.YtfemnfpbdbbacaaGreat
open Go Go.RowKit Go.Sort
section
theorem rm {b : Nat} {t : TypeId} : ∀ (vs : List Value) (o : Nat) (w : World) (cur : Array Value), w.heap[b]? = some (.cells cur t (0, 0)) → o + vs.length ≤ cur.size → ∃ c', (w.setCells b o vs).heap[b]? = some (.cells c' t (0, 0)) ∧ c'.size = cur.size ∧ (∀ i, i < o → c'[i]? = cur[i]?) ∧ (∀ j (hj : j < vs.length), c'[o + j]? = some vs[j]) ∧ ∀ i, o + vs.length ≤ i → c'[i]? = cur[i]?
 | [], o, w, cur, h, _ => ⟨cur, h, rfl, fun _ _ => rfl, fun j hj => absurd hj (Nat.not_lt_zero _), fun _ _ => rfl⟩
 | v :: vs, o, w, cur, h, hs => by
  have h1 : (w.setCell ⟨b, o, none⟩ v).heap[b]? = some (.cells (cur.setIfInBounds o v) t (0, 0)) := by
   simp [World.setCell, Array.getElem?_modify, h]
  obtain ⟨c', g1, g2, g3, g4, g5⟩ := rm vs (o + 1) _ _ h1 (by simp at hs ⊢; omega);refine ⟨c', g1, by rw [g2]; simp, fun i hi => ?_, fun j hj => ?_, fun i hi => ?_⟩
  ·rw [g3 i (by omega), Array.getElem?_setIfInBounds_ne (by omega)]
  ·cases j with
   | zero =>
    rw [Nat.add_zero, g3 o (by omega), Array.getElem?_setIfInBounds_self_of_lt (by simp at hs; omega)]; rfl
   | succ j =>
    have := g4 j (by simpa using hj);rw [show o + (j + 1) = o + 1 + j by omega, this]; rfl
  ·rw [g5 i (by simp at hi; omega), Array.getElem?_setIfInBounds_ne (by simp at hi; omega)]
theorem rl {b : Nat} : ∀ (vs : List Value) (o : Nat) (w : World), (w.setCells b o vs).os = w.os ∧ (w.setCells b o vs).tape = w.tape ∧ (w.setCells b o vs).output = w.output ∧ (w.setCells b o vs).heap.size = w.heap.size ∧ ∀ k, k ≠ b → (w.setCells b o vs).heap[k]? = w.heap[k]?
 | [], o, w => ⟨rfl, rfl, rfl, rfl, fun _ _ => rfl⟩
 | v :: vs, o, w => by
  obtain ⟨h1, h2, h3, h4, h5⟩ := rl vs (o + 1) (w.setCell ⟨b, o, none⟩ v);refine ⟨h1.trans rfl, h2.trans rfl, h3.trans rfl, h4.trans (by simp [World.setCell]), fun k hk => (h5 k hk).trans (Below.heap_setCell w ⟨b, o, none⟩ _ k hk)⟩
theorem Aa (w : World) (b o n c : Nat) (hc : ∀ j, j < n → (w.cell? ⟨b, o + j, none⟩).isSome = true) (hf : ∀ j, w.frozen? ⟨b, j, none⟩ = false) (A : Option Addr) (hA : 0 < n → A = some ⟨b, o, none⟩) (ty : TypeId) :
 (Builtin.clear_ #[25] ty #[.slice A n c]).run Tryz.prog w = .ok (.tuple #[]) (w.setCells b o (List.replicate n (.int .i64 0))) := by
 cases n with
 | zero => cases A <;> simp [Builtin.clear_, run_underlying Tryz.underlying25, World.setCells]
 | succ m =>
  obtain rfl := hA (by omega);have hv := Tryz.zeroValue3
  have hz : (Builtin.zeroCells (Value.int .i64 0).cells (m + 1)).toList = List.replicate (m + 1) (.int .i64 0) := by
   apply List.ext_getElem
   ·simp [Builtin.zeroCells, Value.cells]
   ·intro i h1 h2;simp [Builtin.zeroCells, Value.cells, Nat.mod_one]
  have hst := run_storeCells_cells (P := Tryz.prog) b o (List.replicate (m + 1) (.int .i64 0)) 0 w (by
   intro j hj;rw [List.length_replicate] at hj
   exact hc j hj) (by intro j _; exact hf _) (by
   intro v hv'
   rw [(List.mem_replicate.1 hv').2]; rfl)
  simp only [Nat.add_zero] at hst;rw [← hz] at hst ⊢;simp [Builtin.clear_, run_underlying Tryz.underlying25, hv, hst]
def ow (xs : List Int) (k : Nat) : List Int := xs.take k ++ List.replicate (xs.length - k) 0
theorem nh {xs : List Int} {k : Nat} (h : k ≤ xs.length) : (ow xs k).length = xs.length := by simp [ow]; omega
theorem P0 {xs : List Int} {k : Nat} (h : k ≤ xs.length) : (ow xs k).take k = xs.take k := by
 unfold ow;rw [List.take_append_of_le_length (by simp; omega), List.take_take, Nat.min_self]
theorem Nn {xs : List Int} {k i : Nat} (h : k ≤ xs.length) (hi : i < xs.length) : gi (ow xs k) i = if i < k then gi xs i else 0 := by
 unfold ow gi;rw [List.getD_eq_getElem?_getD, List.getElem?_append];have : (xs.take k).length = k := by rw [List.length_take]; omega
 rw [this];split
 ·rename_i h1; rw [List.getElem?_take_of_lt h1, List.getD_eq_getElem?_getD]
 ·rename_i h1; rw [List.getElem?_replicate, if_pos (by omega)]; rfl
end
set_option maxHeartbeats 1000000 in
theorem Tj {w0 : Base} {e : Env} {id r j ra rb rc k : Nat} {t : TypeId} {o1 o2 o3 o4 : Oper} {xs : List Int} {Q : Exit → Env → Prop} (h1 : o1.op = .move (.tmp r)) (h1d : o1.dst = some ra) (h1g : o1.guard = none) (h2 : o2.op = .move (.tmp j)) (h2d : o2.dst = some rb) (h2g : o2.guard = none) (h3 : o3.op = .slice 25 (.tmp ra) (some (.tmp rb)) none none) (h3d : o3.dst = some rc) (h3g : o3.guard = none)
 (h4 : o4.op = .call { callee := .builtin .clear, args := #[.tmp rc], argTypes := #[25] }) (h4d : o4.dst = none) (h4g : o4.guard = none)
 (hr : e.s r = .own false 1) (hj : e.s j = .c (.p (.int .i64 (k : Nat)))) (hc : e.con (r, 0) = some ⟨none, [.sl true t 1 (xs.map iC)]⟩) (hra : ra < e.n) (hrb : rb < e.n) (hrc : rc < e.n) (hn : [r, j, ra, rb, rc].Nodup) (hp : 0 < xs.length) (hk : k ≤ xs.length)
 (hK : Q .normal ((((e.set ra .dead noCon).set rb .dead noCon).set rc .dead noCon).put r [(0, 0)] (.sl true t 1 ((ow xs k).map iC)))) : DW Tryz.prog w0 (.region id #[o1, o2, o3, o4] false) Q e := by
 simp only [List.nodup_cons, List.mem_cons, List.not_mem_nil, or_false, not_or] at hn;intro a w ⟨val, S, hst⟩;have hsz : a.tmps.size = e.n := hst.sz;have hsl := hst.slot r;rw [hr] at hsl;obtain ⟨-, -, hv⟩ := hsl;have hsj := hst.slot j;rw [hj] at hsj
 have hjv : a.tmps.getD j undef = .int .i64 (k : Nat) := by
  have h : RO w S (.p (.int .i64 (k : Nat))) (a.tmps.getD j undef) := hsj
  generalize a.tmps.getD j undef = v at h ⊢
  cases h; rfl
 have hnode := hst.mem.node (r, 0) _ [(0, 0)] _ hc (cw _ 0);obtain ⟨-, -, ⟨hnil, -⟩ | ⟨b, o, cap, cur, q1, q2, q3, q4, q5, q6⟩⟩ := hnode
 ·have := congrArg List.length hnil;simp at this;rw [this] at hp; simp at hp
 rw [List.length_map] at q1 q3
 have hcells : ∀ i, i < xs.length → cur[o + i]? = some (.int .i64 (gi xs i)) := fun i hi => by
  have h3 := q6 i 0 _ (bt hi);rw [show o + (i * 1 + 0) = o + i by omega] at h3;rw [h3];have h4 := hst.mem.node (r, 0) _ ([(0, 0)] ++ [(i, 0)]) (.p (.int .i64 (gi xs i))) hc ((fc (by simp)).2 ⟨t, 1, _, cw _ 0, bt hi⟩);exact congrArg some h4
 have hosz : o + xs.length ≤ cur.size := by
  have h5 := hcells (xs.length - 1) (by omega);have := (Array.getElem?_eq_some_iff.1 h5).1;omega
 have hst1 := (hst.setP (d := ra) (av := .dead) (v := a.tmps.getD r undef) hra (Below.refl _ _) trivial);have hst2 := (hst1.setP (d := rb) (av := .dead) (v := a.tmps.getD j undef) hrb (Below.refl _ _) trivial);obtain ⟨V, hV⟩ : ∃ V, V = Go.sliced (some ⟨b, o, none⟩) k xs.length cap 1 := ⟨_, rfl⟩;have hst3 := (hst2.setP (d := rc) (av := .dead) (v := V) hrc (Below.refl _ _) trivial);refine wp_region ?_;rw [show List.range (#[o1, o2, o3, o4] : Array Oper).size = [0, 1, 2, 3] from rfl, wpOps_cons];unfold wpOp;rw [show (#[o1, o2, o3, o4] : Array Oper)[0]? = some o1 from rfl];dsimp only;rw [if_pos (by simp [Region.wanted, h1g])];left;refine cz (v := a.tmps.getD r undef) (by unfold execOp; rw [h1]; rfl) ?_;rw [wpOps_cons];unfold wpOp;rw [show (#[o1, o2, o3, o4] : Array Oper)[1]? = some o2 from rfl];dsimp only;rw [if_pos (by simp [Region.wanted, h2g])];left
 have e2 : (a.put o1.dst (a.tmps.getD r undef)).eval (.tmp j) = .int .i64 (k : Nat) := by
  rw [← hjv, h1d];show (a.put (some ra) _).tmps.getD j undef = _;simp [Act.put, Array.getElem?_setIfInBounds_ne (show ra ≠ j from fun h => hn.2.1.1 h.symm)]
 refine cz (v := .int .i64 (k : Nat)) (by unfold execOp; rw [h2]; show Sem.run _ _ _ = _; simp only [e2]; rfl) ?_;rw [wpOps_cons];unfold wpOp;rw [show (#[o1, o2, o3, o4] : Array Oper)[2]? = some o3 from rfl];dsimp only;rw [if_pos (by simp [Region.wanted, h3g])];left
 have e3 : ((a.put o1.dst (a.tmps.getD r undef)).put o2.dst (.int .i64 (k : Nat))).eval (.tmp ra) = .slice (some ⟨b, o, none⟩) xs.length cap := by
  rw [h1d, h2d, ← q1, ← hv];show ((a.put (some ra) (a.tmps.getD r undef)).put (some rb) _).tmps.getD ra undef = _;have h5 : rb ≠ ra := fun h => hn.2.2.1.1 h.symm;simp [Act.put, hsz, hra, Array.getD_eq_getD_getElem?, Array.getElem?_setIfInBounds, h5]
 have e4 : ((a.put o1.dst (a.tmps.getD r undef)).put o2.dst (.int .i64 (k : Nat))).eval (.tmp rb) = .int .i64 (k : Nat) := by
  rw [h1d, h2d];show ((a.put (some ra) (a.tmps.getD r undef)).put (some rb) _).tmps.getD rb undef = _;simp [Act.put, hsz, hrb]
 have e5 : (execOp ((a.put o1.dst (a.tmps.getD r undef)).put o2.dst (.int .i64 (k : Nat))).eval o3).run Tryz.prog w = .ok (.value V) w := by
  have hr := Ez (P := Tryz.prog) Tryz.underlying25 (fun W => Tryz.sizeOf3 W) (some ⟨b, o, none⟩) xs.length cap k hk w
  generalize (a.put o1.dst (a.tmps.getD r undef)).put o2.dst (.int .i64 (k : Nat)) = R at e3 e4 ⊢
  unfold execOp;simp [h3, e3, e4, hr, Result.andThen, hV]
 refine cz e5 ?_;rw [wpOps_cons];unfold wpOp;rw [show (#[o1, o2, o3, o4] : Array Oper)[3]? = some o4 from rfl];dsimp only;rw [if_pos (by simp [Region.wanted, h4g])];left
 have hcl := Aa w b (o + k) (xs.length - k) (cap - k) (fun j hj => by
  simp only [World.cell?, q2];simp only [Option.isSome_none, Bool.false_eq_true, if_false]
  rw [show o + k + j = o + (k + j) by omega, hcells (k + j) (by omega)]; rfl) (fun j => by simp [World.frozen?, q2])
 have hVs : ∃ A, V = .slice A (xs.length - k) (cap - k) ∧ (0 < xs.length - k → A = some ⟨b, o + k, none⟩) := by
  rw [hV];unfold Go.sliced;refine ⟨_, rfl, fun h => ?_⟩;rw [if_neg (by omega)];simp [Addr.add]
 obtain ⟨A, hVA, hA⟩ := hVs;have hcl2 := hcl A hA o4.type
 have e6 : (((a.put o1.dst (a.tmps.getD r undef)).put o2.dst (.int .i64 (k : Nat))).put o3.dst V).eval (.tmp rc) = .slice A (xs.length - k) (cap - k) := by
  rw [h1d, h2d, h3d, ← hVA];show (((a.put (some ra) (a.tmps.getD r undef)).put (some rb) _).put (some rc) V).tmps.getD rc undef = _;simp [Act.put, hsz, hrc, Array.getD_eq_getD_getElem?, Array.getElem?_setIfInBounds]
 have e7 : (execOp (((a.put o1.dst (a.tmps.getD r undef)).put o2.dst (.int .i64 (k : Nat))).put o3.dst V).eval o4).run Tryz.prog w = .ok (.value (.tuple #[])) (w.setCells b (o + k) (List.replicate (xs.length - k) (.int .i64 0))) := by
  generalize ((a.put o1.dst (a.tmps.getD r undef)).put o2.dst (.int .i64 (k : Nat))).put o3.dst V = R at e6 ⊢
  unfold execOp;simp [h4, e6, hcl2, Result.andThen, resolve, invoke, builtin]
 refine cz e7 ?_;show ∃ e', _ ∧ _;rw [h1d, h2d, h3d, h4d, ← hjv]
 have hce : (((e.set ra .dead noCon).set rb .dead noCon).set rc .dead noCon).con (r, 0) = some ⟨none, [.sl true t 1 (xs.map iC)]⟩ := by
  rw [← hc]; simp [Env.set, hn.1.2.1, hn.1.2.2.1, hn.1.2.2.2]
 obtain ⟨E, w1, val1, g1, g2, g3, g4, g5, g6, g7, g8, g9, g10, g11, g12, g13, g14, g15⟩ := zz (ys := ow xs k) hst3 hce q1 q2 hosz (nh hk) _ (Nat.le_refl _);obtain ⟨c', s1, s2, s3, s4, s5⟩ := rm (List.replicate (xs.length - k) (.int .i64 0)) (o + k) w cur q2 (by simp; omega);obtain ⟨s6, s7, s8, s9, s10⟩ := rl (b := b) (List.replicate (xs.length - k) (.int .i64 0)) (o + k) w
 have hcc : c' = putCells (Value.int .i64) o (ow xs k).toArray cur := by
  apply Array.ext
  ·rw [s2]; simp [putCells]
  ·intro i i1 i2;have hic : i < cur.size := by rw [← s2]; exact i1
   have hput : (putCells (Value.int .i64) o (ow xs k).toArray cur)[i] = if o ≤ i ∧ i < o + xs.length then .int .i64 (gi (ow xs k) (i - o)) else cur[i] := by
    simp only [putCells, Array.getElem_mapIdx, List.size_toArray, nh hk];split
    ·rename_i h8
     have h9 : i - o < (ow xs k).toArray.size := by simp [nh hk]; omega
     rw [getElem!_pos (ow xs k).toArray (i - o) h9, bn (by rw [nh hk]; omega)]; simp
    ·rfl
   rw [hput];have hg : c'[i]? = some c'[i] := Array.getElem?_eq_getElem i1
   by_cases b1 : i < o + k
   ·have h8 := s3 i b1;rw [hg, Array.getElem?_eq_getElem hic] at h8;have h9 : c'[i] = cur[i] := by simpa using h8
    rw [h9]
    by_cases b2 : o ≤ i
    ·rw [if_pos ⟨b2, by omega⟩, Nn hk (by omega), if_pos (by omega)];have h10 := hcells (i - o) (by omega);rw [show o + (i - o) = i by omega, Array.getElem?_eq_getElem hic] at h10;simpa using h10
    ·rw [if_neg fun h => b2 h.1]
   ·by_cases b2 : i < o + xs.length
    ·have h8 := s4 (i - (o + k)) (by simp; omega);rw [show o + k + (i - (o + k)) = i by omega, hg] at h8;rw [if_pos ⟨by omega, b2⟩, Nn hk (by omega), if_neg (by omega)];simpa using h8
    ·have h8 := s5 i (by simp; omega);rw [hg, Array.getElem?_eq_getElem hic] at h8;rw [if_neg fun h => b2 h.2];simpa using h8
 have hbel : Below w1.heap.size w1 (w.setCells b (o + k) (List.replicate (xs.length - k) (.int .i64 0))) := by
  refine ⟨(s6.trans g13.symm), (s7.trans g14.symm), (s8.trans g15.symm), by rw [g10, s9]; exact Nat.le_refl _, fun i hi => ?_⟩
  by_cases hib : i = b
  ·subst hib;rw [g12, s1, List.take_length, hcc]
  ·rw [g11 i hib, s10 i hib]
 refine ⟨_, hK, val1, S, ?_⟩;refine StV.less (e := E) (g1.below hbel) g2.symm g3.symm ?_ ?_ ?_
 ·funext key
  by_cases hkey : key = (r, 0)
  ·subst hkey;rw [g5]
   have : Ba (ow xs k) xs (ow xs k).length = ow xs k := by
    unfold Ba; rw [List.take_length, nh hk, List.drop_length, List.append_nil]
   rw [this];simp only [Env.put, if_true, hce, Option.map_some, puts, List.modify_zero_cons, C.put]
  ·rw [g4 key hkey]; simp [Env.put, hkey]
 ·exact g6.symm
 ·rintro x g p ⟨hx1, hx2⟩;refine ⟨by rw [g6]; exact hx1, fun dd hd => ?_⟩
  by_cases hxr : x = r
  ·subst hxr
   rcases g8 dd hd with h3 | h3
   ·exact hx2 dd (by simp [Env.put, h3])
   ·intro h4;exact hx2 [(0, 0)] (by simp [Env.put]) (h3.trans h4)
  ·rw [g7 x hxr] at hd;exact hx2 dd (by simp [Env.put, hxr, hd])
end Go.Proofs.YtfemnfpbdbbacaaGreat
