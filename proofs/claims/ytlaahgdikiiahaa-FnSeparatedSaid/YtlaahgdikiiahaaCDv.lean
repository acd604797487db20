/- Drawn regions, walked once in the order of the text. No program in sight. -/
import Derived.Test.YtlaahgdikiiahaaCJn12
set_option linter.unusedSimpArgs false
set_option linter.unusedVariables false
namespace Go.Proofs.Ytlaahgdikiiahaa
open Go Go.RowKit
def numL : Nat → List Oper → List (Nat × Oper)
 | _, [] => []
 | k, o :: l => (k, o) :: numL (k + 1) l
theorem numL_fst : ∀ (k : Nat) (l : List Oper), (numL k l).map Prod.fst = List.range' k l.length
 | _, [] => rfl
 | k, o :: l => by unfold numL; rw [List.map_cons, numL_fst (k + 1) l, List.length_cons, List.range'_succ]
theorem numL_mem : ∀ (k : Nat) (l : List Oper) (p : Nat × Oper), p ∈ numL k l → k ≤ p.1 ∧ l[p.1 - k]? = some p.2
 | _, [], p, h => by cases h
 | k, o :: l, p, h => by
  unfold numL at h
  rcases List.mem_cons.1 h with rfl | h
  ·simp
  ·obtain ⟨h1, h2⟩ := numL_mem (k + 1) l p h
   refine ⟨by omega, ?_⟩
   rw [show p.1 - k = p.1 - (k + 1) + 1 from by omega, List.getElem?_cons_succ]; exact h2
structure Dops (P : Program) (pa : Nat → Res → Prop) (st : Nat → Stat) (nn : Nat) (ds : List (Option Nat)) (ops : Array Oper) (l : List (Nat × Oper)) (e : Env) (K : Env → Prop) : Prop where
 out : dsts ops = ds → (∀ p ∈ l, ops[p.1]? = some p.2) → arun P nn (oneCt P fun i _ => pa i) (fun i => some (st i)) ops (l.map Prod.fst) e K
section
variable {P : Program} {pa : Nat → Res → Prop} {st : Nat → Stat} {nn : Nat} {ds : List (Option Nat)} {ops : Array Oper} {l : List (Nat × Oper)} {e E1 : Env} {K : Env → Prop} {w0 : Base} {Q : Exit → Env → Prop} {i : Nat} {o : Oper}
theorem dw_regionD_k {id : Nat} (st : Nat → Stat) (pa : Nat → Res → Prop) (hn : e.n = nn) (hd : dsts ops = ds) (hs : numL 0 ops.toList = l) (hm : P.follows .mixedOrders = true) (hreg : regB ops st = true) (h : ∀ K : Env → Prop, (∀ e', Q .normal e' → K e') → Dops P pa st nn ds ops l e K) : DW P w0 (.region id ops true) Q e := dw_regionD st (fun i _ => pa i) hm hreg (by
 have h1 := (h _ fun _ h => h).out hd (fun p hp => by
  rw [← hs] at hp
  have := (numL_mem _ _ _ hp).2
  simpa using this)
 rw [← hs, numL_fst] at h1
 rw [hn, List.range_eq_range']
 simpa using h1)
theorem dops_end (h : K e) : Dops P pa st nn ds ops [] e K := ⟨fun _ _ => h⟩
theorem dops_ev (_ : notCall o.op = true) (h0 : gOk (st i) ds o e = true) (h : gX P nn ds o e = some E1) (h2 : Dops P pa st nn ds ops l E1 K) : Dops P pa st nn ds ops ((i, o) :: l) e K := ⟨fun hd hl => by
 rw [List.map_cons]
 unfold arun
 rw [hl (i, o) (by simp)]
 dsimp only
 rw [hd]
 exact qrun_mono (fun e' he => by rw [he]; exact h2.out hd fun p hp => hl p (by simp [hp])) _ (y_g h0 h)⟩
theorem dops_call {s : Nat} {f : FuncId} {args : List Operand} {as : List Arg} {Post : Res → Prop} (hg : o.guard = none) (hc : callsTo o s f args) (hd : s < nn) (hm : callOk P f = true) (hw : (st i).ws.contains s = true) (hr : args.all (rsO (st i)) = true) (hsu : args.all (fun x => subO (st i) (opE e x)) = true) (ha : argsE e args = some as) (hp : DCalls P f as Post) (hpa : Post = pa i) (hex : ∃ r, Post r) (h2 : ∀ r, Post r → Dops P pa st nn ds ops l (e.set s (resAV r) fun i => resCon r (0, i)) K) : Dops P pa st nn ds ops ((i, o) :: l) e K := ⟨fun hds hl => by
 obtain ⟨h1, ts, h3⟩ := hc
 rw [List.map_cons]
 unfold arun
 rw [hl (i, o) (by simp)]
 dsimp only
 unfold gQ; rw [hg]
 dsimp only
 unfold opQ; rw [h3]
 show qrun _ _ (callQ P nn o.dst f args) _ _
 unfold callQ; rw [h1]
 dsimp only
 rw [if_pos ⟨hd, hm⟩]
 refine y_recv hr hsu ha ?_
 refine ⟨Post, ⟨hpa, by rw [xcalls_plain (argsE_io ha)]; exact .inl hp, hex⟩, fun r hr => ⟨fun x hx => ?_, (h2 r hr).out hds fun p hp => hl p (by simp [hp])⟩⟩
 cases hx
 simp only [retU, List.all_cons, List.all_nil, Upd.okB, Bool.and_true]
 exact hw⟩
theorem dops_callio {s r g : Nat} {t : TypeId} {ys : List C} {f : FuncId} {x : Operand} {xs : List Operand} {as : List Arg} {Post : Res → Prop} (hg : o.guard = none) (hc : callsTo o s f (x :: xs)) (hd : s < nn) (hm : callOk P f = true) (hw : (st i).ws.contains s = true) (hrx : rsO (st i) x = true) (hrd : (st i).rd.contains r = true) (hpb : (st i).pB r 1 = true) (hr : xs.all (rsO (st i)) = true) (hsu : xs.all (fun x => subO (st i) (opE e x)) = true) (hx : boxpE (opE e x) = some (r, g)) (hsr : s ≠ r) (hwh : e.whole r g = some (t, ys)) (hno : xs.all (notO e r) = true) (ha : argsE e xs = some as) (hp : SCalls P f t ys as Post ∨ (rosE e xs = true ∧ ACalls P f (.io t ys :: as) Post)) (hpa : Post = pa i) (hex : ∃ r, Post r) (h2 : ∀ r', Post r' → Dops P pa st nn ds ops l (upds (ioU r s r') e) K) : Dops P pa st nn ds ops ((i, o) :: l) e K := ⟨fun hds hl => by
 obtain ⟨h1, ts, h3⟩ := hc
 rw [List.map_cons]
 unfold arun
 rw [hl (i, o) (by simp)]
 dsimp only
 unfold gQ; rw [hg]
 dsimp only
 unfold opQ; rw [h3]
 show qrun _ _ (callQ P nn o.dst f (x :: xs)) _ _
 unfold callQ; rw [h1]
 dsimp only
 rw [if_pos ⟨hd, hm⟩]
 refine y_recvio hrx hr hsu hrd hx hsr hwh hno ha ?_
 refine ⟨Post, ⟨hpa, by rw [xcalls_io (argsE_io ha)]; exact hp, hex⟩, fun r' hr' => ⟨fun x hx => ?_, (h2 r' hr').out hds fun p hp => hl p (by simp [hp])⟩⟩
 cases hx
 unfold ioU
 split
 ·rw [List.all_append, putsU_ok (p := [(0, 0)]) hpb]
  simp only [List.all_cons, List.all_nil, Upd.okB, Bool.and_true, Bool.true_and]
  exact hw
 ·rfl⟩
theorem dops_to {e' : Env} (h : e = e') (h2 : Dops P pa st nn ds ops l e' K) : Dops P pa st nn ds ops l e K := h ▸ h2
end
end Go.Proofs.Ytlaahgdikiiahaa
