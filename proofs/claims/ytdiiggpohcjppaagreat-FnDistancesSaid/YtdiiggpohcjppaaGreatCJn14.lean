/- Parts of the proof, joined: Du, Dv. -/
import Derived.Test.YtdiiggpohcjppaaGreatCDs
set_option linter.unusedSimpArgs false
set_option linter.unusedVariables false
namespace Go.Proofs.YtdiiggpohcjppaaGreat
section
open Go Go.RowKit
def plen : Path → Nat
 | [] => 1
 | p => p.length
theorem cellP_le (p : Path) (i : Nat) : (cellP p i).length ≤ plen p := by
 cases p with
 | nil => unfold cellP plen; split <;> simp
 | cons a p => unfold cellP plen; split <;> simp
theorem cellP_ge (p : Path) (i : Nat) : p.length ≤ (cellP p i).length := by
 unfold cellP
 split
 ·exact Nat.le_refl _
 ·simp; omega
theorem hB_le {st : Stat} {r d d' : Nat} (h : st.hB r d = true) (hd : d' ≤ d) : st.hB r d' = true := by
 unfold Stat.hB at h ⊢
 rw [List.any_eq_true] at h ⊢
 obtain ⟨x, hx, h2⟩ := h
 refine ⟨x, hx, ?_⟩
 simp only [Bool.and_eq_true, decide_eq_true_eq] at h2 ⊢
 exact ⟨h2.1, by omega⟩
theorem pB_le {st : Stat} {r d d' : Nat} (h : st.pB r d = true) (hd : d ≤ d') : st.pB r d' = true := by
 unfold Stat.pB at h ⊢
 rw [List.any_eq_true] at h ⊢
 obtain ⟨x, hx, h2⟩ := h
 refine ⟨x, hx, ?_⟩
 simp only [Bool.and_eq_true, decide_eq_true_eq] at h2 ⊢
 exact ⟨h2.1, by omega⟩
theorem holesU_ok {st : Stat} {r : Nat} {p : Path} (h : st.pB r p.length = true) : ∀ n, (holesU r p n).all (Upd.okB st) = true
 | 0 => rfl
 | n + 1 => by
  unfold holesU
  rw [List.all_append, holesU_ok h n]
  simp only [List.all_cons, List.all_nil, Upd.okB, Bool.true_and, Bool.and_true]
  exact pB_le h (cellP_ge _ _)
theorem putsU_ok {st : Stat} {r : Nat} {p : Path} (h : st.pB r p.length = true) : ∀ (ys : List C) i, (putsU r p i ys).all (Upd.okB st) = true
 | [], _ => rfl
 | y :: ys, i => by
  unfold putsU
  simp only [List.all_cons, Upd.okB, putsU_ok h ys (i + 1), Bool.and_true]
  exact pB_le h (cellP_ge _ _)
theorem graftU_ok {st : Stat} {s r : Nat} {p1 p2 : Path} (h : st.pB s p1.length = true) (h2 : st.pB r p2.length = true) : ∀ (ys : List C) i, (graftU s p1 r p2 i ys).all (Upd.okB st) = true
 | [], _ => rfl
 | y :: ys, i => by
  unfold graftU
  simp only [List.all_cons, Upd.okB, graftU_ok h h2 ys (i + 1), Bool.and_true, Bool.and_eq_true]
  exact ⟨pB_le h (cellP_ge _ _), pB_le h2 (cellP_ge _ _)⟩
def rsO (st : Stat) : Operand → Bool
 | .tmp s => st.rs.contains s
 | _ => true
def wsO (st : Stat) : Option Nat → Bool
 | some d => st.ws.contains d
 | none => true
def ptrO (st : Stat) : Option AV → Bool
 | some (.ptr r _ p _) => st.hB r (plen p)
 | _ => true
def hdO (st : Stat) : Option AV → Bool
 | some (.ref r _ p _ _) => st.hB r p.length
 | _ => true
def subO (st : Stat) : Option AV → Bool
 | some (.ref r _ _ _ _) => st.rd.contains r
 | some (.clo _ rs) => rs.all fun x => st.rd.contains x.1
 | _ => true
def tkO (st : Stat) : Option AV → Bool
 | some (.ref r _ p _ _) => st.pB r p.length
 | _ => true
def putO (st : Stat) : Option AV → Bool
 | some (.ptr r _ p _) => st.pB r p.length
 | _ => true
def noRef : Option AV → Bool
 | some (.ref _ _ _ _ _) => false
 | _ => true
def exO (st : Stat) (x : Operand) (i : Nat) : Bool := match x with
 | .tmp s => st.tk.contains (s, i + 1)
 | _ => true
def rowO (st : Stat) (d : Option Nat) (e : Env) : Option AV → Bool
 | some (.ref s g p _ _) => (match e.sub s g p with
  | some (.sl true _ _ rows2) => rowsOk rows2 || (st.pB s (p.length + 1) && (match d with
   | some dd => st.pB dd 2
   | none => false))
  | _ => true)
 | _ => true
def elO (st : Stat) (d : Option Nat) : Option AV → Bool
 | some (.ref s _ p _ _) => st.rd.contains s && st.pB s p.length && (match d with
  | some dd => st.pB dd 2
  | none => false)
 | _ => true
def tupO (st : Stat) (x : Operand) : Option AV → Bool
 | some (.tup ts) => (match x with
  | .tmp s => (List.range ts.length).all fun i => st.tk.contains (s, i + 1)
  | _ => true)
 | _ => true
def bndO (st : Stat) (x : Option Operand) : Bool := match x with
 | none => true
 | some x => rsO st x
def opOk (st : Stat) (d : Option Nat) (op : Op) (e : Env) : Bool := match op with
 | .move x => rsO st x && wsO st d && tupO st x (opE e x)
 | .assign x => rsO st x && wsO st d && subO st (opE e x) && tkO st (opE e x)
 | .pick c x y => rsO st c && rsO st x && rsO st y && wsO st d
 | .alloc _ => wsO st d
 | .box _ x => rsO st x && wsO st d && noRef (opE e x)
 | .load _ x => rsO st x && wsO st d && ptrO st (opE e x)
 | .store _ x v => rsO st x && rsO st v && ptrO st (opE e x) && putO st (opE e x) && subO st (opE e v) && tkO st (opE e v)
 | .binOp _ _ x y _ => rsO st x && rsO st y && wsO st d
 | .unOp _ _ x => rsO st x && wsO st d
 | .fieldAddr _ x _ => rsO st x && wsO st d && ptrO st (opE e x)
 | .indexAddr _ x i => rsO st x && rsO st i && wsO st d && hdO st (opE e x)
 | .makeSlice _ l c => rsO st l && rsO st c && wsO st d
 | .extract x i => rsO st x && wsO st d && exO st x i
 | .build _ ps => ps.toList.all (fun p => rsO st p.2) && wsO st d
 | .call ⟨.builtin .len, ⟨[x]⟩, ⟨[_]⟩⟩ => rsO st x && wsO st d && hdO st (opE e x)
 | .makeFunc (.func _) ⟨[]⟩ caps => caps.toList.all (rsO st) && wsO st d
 | .buildSlice _ _ ps => ps.toList.all (fun p => rsO st p.2 && elO st d (opE e p.2)) && wsO st d
 | .call ⟨.builtin .append, ⟨[x, y]⟩, ⟨[_, _]⟩⟩ => rsO st x && rsO st y && wsO st d && subO st (opE e x) && tkO st (opE e x) && subO st (opE e y) && rowO st d e (opE e y)
 | .slice _ x lo hi _ => rsO st x && bndO st lo && bndO st hi && wsO st d && subO st (opE e x) && tkO st (opE e x)
 | .call ⟨.builtin .min, ⟨[x, y]⟩, _⟩ => rsO st x && rsO st y && wsO st d
 | .call ⟨.builtin .max, ⟨[x, y]⟩, _⟩ => rsO st x && rsO st y && wsO st d
 | _ => true
def gOk (st : Stat) (ds : List (Option Nat)) (o : Oper) (e : Env) : Bool := match o.guard with
 | none => opOk st o.dst o.op e
 | some (j, want) => match ds[j]? with
  | some (some dj) => st.rs.contains dj && wsO st o.dst && (match gopE e dj with
   | some b => !(b == some want) || opOk st o.dst o.op e
   | none => true)
  | _ => true
section
variable {P : Program} {st : Stat} {nn : Nat} {ct : Cts} {e E1 : Env} {d : Option Nat} {ds : List (Option Nat)} {o : Oper} {K : Env → Prop}
theorem plen_ge (p : Path) : p.length ≤ plen p := by unfold plen; split <;> simp
theorem r_and {a b : Prop} (h : a) : (a ∧ b) = b := propext ⟨fun x => x.2, fun x => ⟨h, x⟩⟩
theorem r_st {f : Stat → Bool} (h : f st = true) : ∀ x, some st = some x → f x = true := fun x hx => by cases hx; exact h
theorem r_slot {s : Nat} {k : AV → Q} (h : st.rs.contains s = true) : qrun ct (some st) (.slot s k) e K = qrun ct (some st) (k (slotView s (e.gen s) (e.s s))) e K := by rw [qrun, view_eq]; exact r_and (r_st (f := fun x => x.rs.contains s) h)
theorem r_hd {r g : Nat} {p : Path} {k : Option Hd → Q} (h : st.hB r p.length = true) : qrun ct (some st) (.hd r g p k) e K = qrun ct (some st) (k (e.hd r g p)) e K := by rw [qrun]; exact r_and (r_st (f := fun x => x.hB r p.length) h)
theorem r_cell {r g : Nat} {p : Path} {kk : Nat} {k : Option Hd → Q} (h : st.hB r p.length = true) : qrun ct (some st) (.cell r g p kk k) e K = qrun ct (some st) (k (e.cell r g p kk)) e K := by rw [qrun]; exact r_and (r_st (f := fun x => x.hB r p.length) h)
theorem r_sub {r g : Nat} {p : Path} {k : Option C → Q} (h : st.rd.contains r = true) : qrun ct (some st) (.sub r g p k) e K = qrun ct (some st) (k (e.sub r g p)) e K := by rw [qrun]; exact r_and (r_st (f := fun x => x.rd.contains r) h)
theorem r_tcon {s i : Nat} {k : Option Con → Q} (h : st.tk.contains (s, i + 1) = true) : qrun ct (some st) (.tcon s i k) e K = qrun ct (some st) (k (e.con (s, i + 1))) e K := by rw [qrun]; exact r_and (r_st (f := fun x => x.tk.contains (s, i + 1)) h)
theorem r_whole {r g : Nat} {k : Option (TypeId × List C) → Q} (h : st.rd.contains r = true) : qrun ct (some st) (.whole r g k) e K = qrun ct (some st) (k (e.whole r g)) e K := by rw [qrun]; exact r_and (r_st (f := fun x => x.rd.contains r) h)
theorem r_ups {us : List Upd} (h : us.all (Upd.okB st) = true) : qrun ct (some st) (.ups us) e K = K (upds us e) := by rw [qrun]; exact r_and (r_st (f := fun x => us.all (Upd.okB x)) h)
theorem y_opd {x : Operand} {k : AV → Q} {av : AV} (hr : rsO st x = true) (h : opE e x = some av) : qrun ct (some st) (opd x k) e K = qrun ct (some st) (k av) e K := by
 cases x with
 | tmp s => simp only [opE, Option.some.injEq] at h; subst h; exact r_slot hr
 | const v => simp only [opE, Option.some.injEq] at h; subst h; rfl
 | func f => simp only [opE, Option.some.injEq] at h; subst h; rfl
 | global g => cases h
theorem y_set {us : List Upd} {av : AV} {cs : Nat → Option Con} (hw : wsO st d = true) (hu : us.all (Upd.okB st) = true) (h : setE nn d us av cs e = some E1) : qrun ct (some st) (setQ nn d us av cs) e (fun x => x = E1) := by
 unfold setE at h; unfold setQ
 cases d with
 | none => cases h
 | some d =>
  dsimp only at h ⊢
  split at h
  ·rename_i hd; cases h; rw [if_pos hd, r_ups (by rw [List.all_append, hu]; simp only [List.all_cons, List.all_nil, Upd.okB, Bool.true_and, Bool.and_true]; exact hw)]
  ·cases h
theorem y_out {av : AV} (hw : wsO st d = true) (h : outE nn d av e = some E1) : qrun ct (some st) (outQ nn d av) e (fun x => x = E1) := by
 unfold outE at h; unfold outQ
 split at h
 ·rename_i hp; rw [if_pos hp]; exact y_set hw rfl h
 ·cases h
theorem y_move {x : Operand} (hr : rsO st x = true) (hw : wsO st d = true) (h : moveE nn d x e = some E1) : qrun ct (some st) (moveQ nn d x) e (fun x => x = E1) := by
 unfold moveE at h; unfold moveQ
 split at h
 ·cases h
 ·rename_i av hx; rw [y_opd hr hx]; exact y_out hw h
theorem dropsU_ok {s : Nat} : ∀ {n : Nat}, (∀ i, i < n → st.tk.contains (s, i + 1) = true) → (dropsU s n).all (Upd.okB st) = true
 | 0, _ => rfl
 | n + 1, h => by
  unfold dropsU
  rw [List.all_append, dropsU_ok fun i hi => h i (by omega)]
  simp only [List.all_cons, List.all_nil, Upd.okB, Bool.and_true, Bool.true_and]
  exact h n (by omega)
theorem y_tcons {s : Nat} : ∀ {n : Nat} {k : List (Option Con) → Q}, (∀ i, i < n → st.tk.contains (s, i + 1) = true) → qrun ct (some st) (tconsQ s n k) e K = qrun ct (some st) (k (tconsE e s n)) e K
 | 0, k, _ => rfl
 | n + 1, k, h => by unfold tconsQ tconsE; rw [y_tcons fun i hi => h i (by omega), r_tcon (h n (by omega))]
theorem y_mv {x : Operand} (hr : rsO st x = true) (hw : wsO st d = true) (ht : tupO st x (opE e x) = true) (h : mvE nn d x e = some E1) : qrun ct (some st) (mvQ nn d x) e (fun x => x = E1) := by
 unfold mvE at h; unfold mvQ
 split at h
 ·rename_i s
  dsimp only
  rw [r_slot hr]
  unfold mvAE at h
  split at h
  ·rename_i ts hts; rw [hts]; dsimp only
   have hk : ∀ i, i < ts.length → st.tk.contains (s, i + 1) = true := fun i hi => by
    have h1 : opE e (.tmp s) = some (slotView s (e.gen s) (e.s s)) := rfl
    rw [h1, hts] at ht
    exact List.all_eq_true.1 ht i (List.mem_range.2 hi)
   split at h
   ·rename_i hd; rw [if_pos hd, y_tcons hk]; exact y_set hw (dropsU_ok hk) h
   ·cases h
  ·rename_i hne
   split
   ·rename_i ts hts; exact (hne _ hts).elim
   ·exact y_out hw h
 ·rename_i x hne
  split
  ·exact (hne _ rfl).elim
  ·exact y_move hr hw h
theorem y_bool {av : AV} {b : Bool} {k : Bool → Q} (h : boolE av = some b) : qrun ct (some st) (boolQ av k) e K = qrun ct (some st) (k b) e K := by
 unfold boolE at h; split at h <;> cases h; rfl
theorem y_int {av : AV} {n : Int} {k : Int → Q} (h : intE av = some n) : qrun ct (some st) (intQ av k) e K = qrun ct (some st) (k n) e K := by
 unfold intE at h; split at h <;> cases h; rfl
theorem y_plain {av : AV} {v : Value} {k : Value → Q} (h : plainE av = some v) : qrun ct (some st) (plainQ av k) e K = qrun ct (some st) (k v) e K := by
 unfold plainE at h; split at h <;> cases h; rfl
theorem y_bop {x : Operand} {b : Bool} {k : Bool → Q} (hr : rsO st x = true) (h : bopE e x = some b) : qrun ct (some st) (opd x fun av => boolQ av k) e K = qrun ct (some st) (k b) e K := by
 unfold bopE at h; split at h
 ·cases h
 ·rename_i av hx; rw [y_opd hr hx]; exact y_bool h
theorem y_iop {x : Operand} {b : Int} {k : Int → Q} (hr : rsO st x = true) (h : iopE e x = some b) : qrun ct (some st) (opd x fun av => intQ av k) e K = qrun ct (some st) (k b) e K := by
 unfold iopE at h; split at h
 ·cases h
 ·rename_i av hx; rw [y_opd hr hx]; exact y_int h
theorem y_pop {x : Operand} {b : Value} {k : Value → Q} (hr : rsO st x = true) (h : popE e x = some b) : qrun ct (some st) (opd x fun av => plainQ av k) e K = qrun ct (some st) (k b) e K := by
 unfold popE at h; split at h
 ·cases h
 ·rename_i av hx; rw [y_opd hr hx]; exact y_plain h
theorem y_pick {c x y : Operand} (hc : rsO st c = true) (hx : rsO st x = true) (hy : rsO st y = true) (hw : wsO st d = true) (h : pickE nn d c x y e = some E1) : qrun ct (some st) (pickQ nn d c x y) e (fun x => x = E1) := by
 unfold pickE at h; unfold pickQ
 split at h
 ·cases h
 ·rename_i b hb; rw [y_bop hc hb]; exact y_move (by split <;> assumption) hw h
theorem y_subs {r g : Nat} {p : Path} (hd : st.rd.contains r = true) : ∀ {n : Nat} {cs : List C} {k : List C → Q}, subsE e r g p n = some cs → qrun ct (some st) (subsQ r g p n k) e K = qrun ct (some st) (k cs) e K
 | 0, cs, k, h => by cases h; rfl
 | n + 1, cs, k, h => by
  unfold subsE at h; unfold subsQ
  split at h
  ·cases h
  ·rename_i cs0 h0
   split at h
   ·cases h
   ·rename_i c hc; cases h; rw [y_subs hd h0, r_sub hd, hc]
theorem y_cells {r g : Nat} {p : Path} {kk : Nat} (hb : st.hB r (plen p) = true) : ∀ {n : Nat} {cs : List Hd} {k : List Hd → Q}, cellsE e r g p kk n = some cs → qrun ct (some st) (cellsQ r g p kk n k) e K = qrun ct (some st) (k cs) e K
 | 0, cs, k, h => by cases h; rfl
 | n + 1, cs, k, h => by
  unfold cellsE at h; unfold cellsQ
  split at h
  ·cases h
  ·rename_i cs0 h0
   split at h
   ·cases h
   ·rename_i c hc; cases h; rw [y_cells hb h0, r_cell (hB_le hb (cellP_le _ _)), hc]
theorem y_assign {x : Operand} (hr : rsO st x = true) (hw : wsO st d = true) (hs : subO st (opE e x) = true) (ht : tkO st (opE e x) = true) (h : assignE nn d x e = some E1) : qrun ct (some st) (assignQ nn d x) e (fun x => x = E1) := by
 unfold assignE at h; unfold assignQ
 split at h
 ·cases h
 ·rename_i av hx; rw [y_opd hr hx]; rw [hx] at hs ht
  unfold takeE at h
  split at h
  ·dsimp only
   split at h
   ·rename_i hc; rw [if_pos hc]
    split at h
    ·cases h
    ·rename_i cs hcs; rw [y_subs hs hcs]; exact y_set hw (holesU_ok ht _) h
   ·cases h
  ·rename_i hne
   split
   ·exact (hne _ _ _ _ _ rfl).elim
   ·exact y_out hw h
theorem y_alloc {t : TypeId} (hw : wsO st d = true) (h : allocE P nn d t e = some E1) : qrun ct (some st) (allocQ P nn d t) e (fun x => x = E1) := by
 unfold allocE at h; unfold allocQ
 split at h
 ·cases h
 ·rename_i ti ht; rw [ht]; exact y_set hw rfl h
theorem y_box {t : TypeId} {x : Operand} (hr : rsO st x = true) (hw : wsO st d = true) (hnr : noRef (opE e x) = true) (h : boxE P nn d t x e = some E1) : qrun ct (some st) (boxOQ P nn d t x) e (fun x => x = E1) := by
 unfold boxE at h; unfold boxOQ
 split at h
 ·cases h
 ·rename_i ti ht; rw [ht]
  split at h
  ·cases h
  ·rename_i av hx; dsimp only; rw [y_opd hr hx]
   rw [hx] at hnr
   split at h
   ·rename_i xs hxs; rw [hxs]; exact y_set hw rfl h
   ·split at h
    ·cases h
    ·split at h
     ·cases hnr
     ·cases h
theorem y_load {t : TypeId} {x : Operand} (hr : rsO st x = true) (hw : wsO st d = true) (hp : ptrO st (opE e x) = true) (h : loadE P nn d t x e = some E1) : qrun ct (some st) (loadQ P nn d t x) e (fun x => x = E1) := by
 unfold loadE at h; unfold loadQ
 split at h
 ·cases h
 ·rename_i ti ht; rw [ht]
  split at h
  ·cases h
  ·rename_i av hx; dsimp only; rw [y_opd hr hx]; rw [hx] at hp
   unfold ldE at h
   split at h
   ·dsimp only
    split at h
    ·rename_i ha; rw [if_pos ha]
     split at h
     ·cases h
     ·rename_i hs hcs; rw [y_cells hp hcs]
      split at h
      ·rename_i xs hr; rw [hr]; exact y_out hw h
      ·rename_i hr; rw [hr]; exact y_out hw h
    ·rename_i ha; rw [if_neg ha, r_cell (hB_le hp (plen_ge _))]
     split at h
     ·rename_i hc; rw [hc]; exact y_out hw h
     ·rename_i hc; rw [hc]; exact y_out hw h
     ·rename_i hc; rw [hc]; exact y_out hw h
     ·cases h
   ·dsimp only
    split at h
    ·rename_i ha; rw [if_pos ha]
     split at h
     ·rename_i hl; rw [if_pos hl]; exact y_out hw h
     ·cases h
    ·rename_i ha; rw [if_neg ha]
     split at h
     ·exact y_out hw h
     ·cases h
   ·cases h
theorem y_store {t : TypeId} {x v : Operand} (hr : rsO st x = true) (hrv : rsO st v = true) (hp : ptrO st (opE e x) = true) (hq : putO st (opE e x) = true) (hsu : subO st (opE e v) = true) (htk : tkO st (opE e v) = true) (h : storeE P d t x v e = some E1) : qrun ct (some st) (storeQ P d t x v) e (fun x => x = E1) := by
 unfold storeE at h; unfold storeQ
 split at h
 ·cases h
 ·split at h
  ·cases h
  ·rename_i ti ht; rw [ht]
   split at h
   ·cases h
   ·rename_i av hx
    split at h
    ·cases h
    ·rename_i av2 hv
     dsimp only
     rw [y_opd hr hx, y_opd hrv hv]; rw [hx] at hp hq; rw [hv] at hsu htk
     unfold stE at h
     split at h
     ·dsimp only
      split at h
      ·rename_i ys hys; rw [hys]
       dsimp only
       split at h
       ·rename_i hl; rw [if_pos hl]
        split at h
        ·cases h
        ·rename_i hcs; cases h; rw [y_cells hp hcs, r_ups (putsU_ok hq _ _)]
       ·cases h
      ·rename_i hys; rw [hys]
       split at h
       ·dsimp only
        split at h
        ·rename_i hl; rw [if_pos hl]
         split at h
         ·cases h
         ·rename_i hcs; rw [y_cells hp hcs]
          split at h
          ·cases h
          ·rename_i cs hs; rw [y_subs hsu hs]
           split at h
           ·rename_i ha; cases h; rw [if_pos ha, r_ups (by rw [List.all_append, putsU_ok hq, graftU_ok htk hq]; rfl)]
           ·cases h
        ·cases h
       ·cases h
     ·cases h
theorem y_bin {op : BinOp} {ty : TypeId} {x y : Operand} (hrx : rsO st x = true) (hry : rsO st y = true) (hw : wsO st d = true) (h : binE P nn d op ty x y e = some E1) : qrun ct (some st) (binQ P nn d op ty x y) e (fun x => x = E1) := by
 unfold binE at h; unfold binQ
 split at h
 ·cases h
 ·rename_i u hu; rw [y_opd hrx hu]
  split at h
  ·cases h
  ·rename_i v hv; rw [y_opd hry hv]
   split at h
   ·cases h
   ·rename_i z hz; rw [hz]; exact y_out hw h
theorem y_un {op : UnOp} {x : Operand} (hr : rsO st x = true) (hw : wsO st d = true) (h : unE nn d op x e = some E1) : qrun ct (some st) (unQ nn d op x) e (fun x => x = E1) := by
 unfold unE at h; unfold unQ
 split at h
 ·cases h
 ·rename_i u hu; rw [y_pop hr hu]
  split at h
  ·cases h
  ·rename_i z hz; rw [hz]; exact y_out hw h
theorem y_fieldAddr {s : TypeId} {x : Operand} {f : Nat} (hr : rsO st x = true) (hw : wsO st d = true) (hp : ptrO st (opE e x) = true) (h : fieldAddrE P nn d s x f e = some E1) : qrun ct (some st) (fieldAddrQ P nn d s x f) e (fun x => x = E1) := by
 unfold fieldAddrE at h; unfold fieldAddrQ
 split at h
 ·cases h
 ·rename_i ti ht; rw [ht]
  dsimp only
  split at h
  ·cases h
  ·rename_i off fty hf; rw [hf]
   dsimp only
   split at h
   ·cases h
   ·rename_i tf htf; rw [htf]
    split at h
    ·cases h
    ·rename_i av hx; dsimp only; rw [y_opd hr hx]; rw [hx] at hp
     unfold faE at h
     split at h
     ·dsimp only; rw [r_cell (hB_le hp (cellP_le _ _))]
      split at h
      ·cases h
      ·rename_i hc; rw [hc]; exact y_out hw h
     ·exact y_out hw h
     ·cases h
theorem y_indexAddr {s : TypeId} {x ix : Operand} (hr : rsO st x = true) (hi : rsO st ix = true) (hw : wsO st d = true) (hh0 : hdO st (opE e x) = true) (h : indexAddrE P nn d s x ix e = some E1) : qrun ct (some st) (indexAddrQ P nn d s x ix) e (fun x => x = E1) := by
 unfold indexAddrE at h; unfold indexAddrQ
 split at h
 ·cases h
 ·rename_i ti ht; rw [ht]
  dsimp only
  split at h
  ·cases h
  ·rename_i el he; rw [he]
   dsimp only
   split at h
   ·cases h
   ·rename_i te hte; rw [hte]
    split at h
    ·cases h
    ·rename_i av hx; dsimp only; rw [y_opd hr hx]; rw [hx] at hh0
     split at h
     ·cases h
     ·rename_i n hn; rw [y_iop hi hn]
      unfold iaE at h
      split at h
      ·dsimp only
       split at h
       ·rename_i hc; rw [if_pos hc, r_hd hh0]
        split at h
        ·rename_i hh; rw [hh]
         split at h
         ·rename_i hl; dsimp only; rw [if_pos hl]; exact y_out hw h
         ·cases h
        ·cases h
       ·cases h
      ·dsimp only
       split at h
       ·rename_i hl; rw [if_pos hl]; exact y_out hw h
       ·cases h
      ·cases h
theorem y_make {t : TypeId} {l c : Operand} (hrl : rsO st l = true) (hrc : rsO st c = true) (hw : wsO st d = true) (h : makeE P nn d t l c e = some E1) : qrun ct (some st) (makeQ P nn d t l c) e (fun x => x = E1) := by
 unfold makeE at h; unfold makeQ
 split at h
 ·cases h
 ·rename_i ti ht; rw [ht]
  dsimp only
  split at h
  ·cases h
  ·rename_i el he; rw [he]
   dsimp only
   split at h
   ·cases h
   ·rename_i te hte; rw [hte]
    split at h
    ·cases h
    ·rename_i n hn; dsimp only; rw [y_iop hrl hn]
     split at h
     ·cases h
     ·rename_i m hm; rw [y_iop hrc hm]
      split at h
      ·rename_i hl; rw [if_pos hl]; exact y_set hw rfl h
      ·cases h
theorem y_extract {x : Operand} {i : Nat} (hr : rsO st x = true) (hw : wsO st d = true) (htk : exO st x i = true) (h : extractE nn d x i e = some E1) : qrun ct (some st) (extractQ nn d x i) e (fun x => x = E1) := by
 unfold extractE at h; unfold extractQ
 split at h
 ·rename_i s
  dsimp only
  rw [r_slot hr]
  split at h
  ·rename_i ts hv; rw [hv]
   dsimp only
   unfold exE at h
   split at h
   ·rename_i ht; rw [ht]; exact y_out hw h
   ·rename_i ht; rw [ht]; exact y_out hw h
   ·rename_i ht; rw [ht]
    dsimp only
    split at h
    ·rename_i hd; rw [if_pos hd, r_tcon htk]
     split at h
     ·rename_i hc; rw [hc]; exact y_set hw (by simp only [List.all_cons, List.all_nil, Upd.okB, Bool.and_true]; exact htk) h
     ·cases h
    ·cases h
   ·cases h
  ·cases h
 ·cases h
theorem y_len {s : TypeId} {x : Operand} (hr : rsO st x = true) (hw : wsO st d = true) (hh0 : hdO st (opE e x) = true) (h : lenE P nn d s x e = some E1) : qrun ct (some st) (lenQ P nn d s x) e (fun x => x = E1) := by
 unfold lenE at h; unfold lenQ
 split at h
 ·cases h
 ·rename_i av hx; rw [y_opd hr hx]; rw [hx] at hh0
  unfold lnE at h
  split at h
  ·split at h
   ·rename_i hs; dsimp only; rw [if_pos hs]; exact y_out hw h
   ·cases h
  ·rename_i hne
   split at h
   ·cases h
   ·rename_i ti ht
    split
    ·exact (hne _ rfl).elim
    ·rw [ht]
     dsimp only
     split at h
     ·rename_i he; rw [if_pos he]
      split at h
      ·dsimp only
       split at h
       ·rename_i hc; rw [if_pos hc, r_hd hh0]
        split at h
        ·rename_i hh; rw [hh]; exact y_out hw h
        ·cases h
       ·cases h
      ·exact y_out hw h
      ·exact y_out hw h
      ·cases h
     ·cases h
theorem y_parts : ∀ {ps : List (Nat × Operand)} {rs : List (Nat × List C)} {k : List (Nat × List C) → Q}, ps.all (fun p => rsO st p.2) = true → partsE e ps = some rs → qrun ct (some st) (partsQ ps k) e K = qrun ct (some st) (k rs) e K
 | [], rs, k, _, h => by cases h; rfl
 | (i, x) :: ps, rs, k, hr, h => by
  rw [List.all_cons, Bool.and_eq_true] at hr
  unfold partsE at h; unfold partsQ
  split at h
  ·cases h
  ·rename_i av hx; rw [y_opd hr.1 hx]
   split at h
   ·cases h
   ·rename_i ys hy; rw [hy]
    split at h
    ·cases h
    ·rename_i rs' hrs; cases h; exact y_parts hr.2 hrs
theorem y_build {t : TypeId} {ps : List (Nat × Operand)} (hr : ps.all (fun p => rsO st p.2) = true) (hw : wsO st d = true) (h : buildE P nn d t ps e = some E1) : qrun ct (some st) (buildQ P nn d t ps) e (fun x => x = E1) := by
 unfold buildE at h; unfold buildQ
 split at h
 ·cases h
 ·rename_i ti ht; rw [ht]
  dsimp only
  split at h
  ·cases h
  ·rename_i f fs hf; rw [hf]
   dsimp only
   split at h
   ·cases h
   ·rename_i pl hpl; rw [hpl]
    dsimp only
    split at h
    ·cases h
    ·rename_i rs hrs; rw [y_parts hr hrs]
     split at h
     ·rename_i ys hys; rw [hys]; exact y_out hw h
     ·cases h
theorem y_src {k : Nat} {av2 : AV} {kq : List (List C) → Q} {kb : Nat → Path → List C → Q} {r : SrcR} (hs : subO st (some av2) = true) (h : srcE e k av2 = some r) : qrun ct (some st) (srcQ k av2 kq kb) e K = qrun ct (some st) (match r with
 | .flat rows2 => kq rows2
 | .row s p row => kb s p row) e K := by
 unfold srcE at h; unfold srcQ
 split at h
 ·cases h; rfl
 ·dsimp only at h ⊢
  split at h
  ·rename_i hc; cases h; rw [if_pos hc]
  ·cases h
 ·dsimp only at h ⊢
  split at h
  ·rename_i hc; rw [if_pos hc, r_sub hs]
   split at h
   ·rename_i hsub; rw [hsub]; dsimp only
    split at h
    ·rename_i hk; rw [if_pos hk]
     split at h
     ·rename_i hok; cases h; rw [if_pos hok]
     ·rename_i hok; rw [if_neg hok]
      split at h
      ·split at h
       ·rename_i hone; cases h; dsimp only; rw [if_pos hone]
       ·cases h
      ·cases h
    ·cases h
   ·cases h
  ·cases h
 ·cases h
theorem src_row {k : Nat} {av2 : AV} {s : Nat} {p : Path} {row : List C} {dd : Nat} (h : srcE e k av2 = some (.row s p row)) (hr : rowO st (some dd) e (some av2) = true) : st.pB s (p.length + 1) = true ∧ st.pB dd 2 = true := by
 unfold srcE at h
 split at h
 ·cases h
 ·split at h <;> cases h
 ·split at h
  ·split at h
   ·rename_i t k2 rows2 hsub
    split at h
    ·split at h
     ·cases h
     ·rename_i hok
      split at h
      ·split at h
       ·cases h
        unfold rowO at hr
        dsimp only at hr
        rw [hsub] at hr
        simp only [Bool.or_eq_true, Bool.and_eq_true] at hr
        rcases hr with hr | hr
        ·exact absurd hr hok
        ·exact hr
       ·cases h
      ·cases h
    ·cases h
   ·cases h
  ·cases h
 ·cases h
theorem grow_ok {r dd el : Nat} {p p2 : Path} {s2 n : Nat} {us : List Upd} {cs1 cs2 : Nat → Option Con} {row : List C} (hus : us.all (Upd.okB st) = true) (hw : st.ws.contains dd = true) (h1 : st.pB s2 (p2.length + 1) = true) (h2 : st.pB dd 2 = true) :
 (us ++ [Upd.set dd (.own false 1) cs1, Upd.set dd (.own false 1) cs2] ++ graftU s2 (p2 ++ [(0, 0)]) dd [(0, 0), (n, 0)] 0 row).all (Upd.okB st) = true := by
 rw [List.all_append, List.all_append, hus]
 simp only [List.all_cons, List.all_nil, Upd.okB, hw, Bool.and_true, Bool.true_and]
 exact graftU_ok (by rw [List.length_append]; exact h1) h2 _ _
theorem y_append {s : TypeId} {x y : Operand} (hrx : rsO st x = true) (hry : rsO st y = true) (hw : wsO st d = true) (hsx : subO st (opE e x) = true) (htx : tkO st (opE e x) = true) (hsy : subO st (opE e y) = true) (hro : rowO st d e (opE e y) = true) (h : appendE P nn d s x y e = some E1) : qrun ct (some st) (appendQ P nn d s x y) e (fun x => x = E1) := by
 unfold appendE at h; unfold appendQ
 split at h
 ·cases h
 ·rename_i ti ht; rw [ht]; dsimp only
  split at h
  ·cases h
  ·rename_i el hel; rw [hel]; dsimp only
   split at h
   ·cases h
   ·rename_i te hte; rw [hte]; dsimp only
    split at h
    ·cases h
    ·rename_i dd; try dsimp only
     split at h
     ·cases h
     ·rename_i av hx; rw [y_opd hrx hx]; rw [hx] at hsx htx
      split at h
      ·cases h
      ·rename_i av2 hy; rw [y_opd hry hy]; rw [hy] at hsy hro
       unfold apE at h
       split at h
       ·show qrun ct (some st) (srcQ te.size av2 _ _) e _
        unfold apNilE at h
        split at h
        ·rename_i rows2 hsrc; rw [y_src hsy hsrc]; dsimp only
         split at h
         ·rename_i hc; rw [if_pos hc]; exact y_set hw (by simp only [List.all_cons, List.all_nil, Upd.okB, Bool.and_true]; exact hw) h
         ·cases h
        ·rename_i s2 p2 row hsrc; rw [y_src hsy hsrc]; dsimp only
         obtain ⟨g1, g2⟩ := src_row hsrc hro
         split at h
         ·rename_i hc; cases h; rw [if_pos hc]; exact (r_ups (K := fun e' => e' = _) (grow_ok (r := 0) (el := 0) (p := []) (us := []) rfl hw g1 g2)).mpr rfl
         ·cases h
        ·cases h
       ·dsimp only
        split at h
        ·rename_i hc; rw [if_pos hc, r_sub hsx]
         split at h
         ·rename_i hsub; rw [hsub]; dsimp only
          split at h
          ·rename_i hk; rw [if_pos hk]
           unfold apOwnE at h
           split at h
           ·rename_i rows2 hsrc; rw [y_src hsy hsrc]; dsimp only
            split at h
            ·rename_i hc; rw [if_pos hc]
             exact y_set hw (by rw [List.all_append, holesU_ok htx]; simp only [List.all_cons, List.all_nil, Upd.okB, Bool.and_true, Bool.true_and]; exact hw) h
            ·cases h
           ·rename_i s2 p2 row hsrc; rw [y_src hsy hsrc]; dsimp only
            obtain ⟨g1, g2⟩ := src_row hsrc hro
            split at h
            ·rename_i hc; cases h; rw [if_pos hc, r_ups (grow_ok (r := 0) (el := 0) (p := []) (holesU_ok htx _) hw g1 g2)]
            ·cases h
           ·cases h
          ·cases h
         ·cases h
        ·cases h
       ·cases h
theorem y_buildSlice {ty : TypeId} {n : Nat} {ps : List (Nat × Operand)} (hr : ps.all (fun p => rsO st p.2) = true) (hw : wsO st d = true) (h : buildSliceE P nn d ty n ps e = some E1) : qrun ct (some st) (buildSliceQ P nn d ty n ps) e (fun x => x = E1) := by
 unfold buildSliceE at h; unfold buildSliceQ
 split at h
 ·cases h
 ·rename_i ti ht; rw [ht]; dsimp only
  split at h
  ·cases h
  ·rename_i el hel; rw [hel]; dsimp only
   split at h
   ·cases h
   ·rename_i te hte; rw [hte]; dsimp only
    split at h
    ·rename_i hc; rw [if_pos hc]
     split at h
     ·cases h
     ·rename_i rs hrs; rw [y_parts hr hrs]
      split at h
      ·rename_i ys hys; rw [hys]; dsimp only
       split at h
       ·rename_i hf; rw [if_pos hf]; exact y_set hw rfl h
       ·cases h
      ·cases h
    ·cases h
theorem y_moveSlice {el : TypeId} {te : TI} {av : AV} (hw : wsO st d = true) (he : elO st d (some av) = true) (h : moveSliceE nn d el te e av = some E1) : qrun ct (some st) (moveSliceQ nn d el te av) e (fun x => x = E1) := by
 unfold moveSliceE at h; unfold moveSliceQ
 split at h
 ·dsimp only
  unfold elO at he
  simp only [Bool.and_eq_true] at he
  obtain ⟨⟨he1, he2⟩, he3⟩ := he
  split at h
  ·rename_i hc; rw [if_pos hc]
   split at h
   ·cases h
   ·rename_i cs hcs; rw [y_subs he1 hcs]
    split at h
    ·rename_i hone; rw [if_pos hone]
     split at h
     ·rename_i hf; rw [if_pos hf]; exact y_set hw rfl h
     ·rename_i hf; cases h; rw [if_neg hf, r_ups (by
       rw [List.all_cons, graftU_ok he2 he3, Bool.and_true]
       exact hw)]
    ·cases h
  ·cases h
 ·cases h
theorem y_bs1 {ty : TypeId} {x : Operand} (hr : rsO st x = true) (he : elO st d (opE e x) = true) (hw : wsO st d = true) (h : bs1E P nn d ty x e = some E1) : qrun ct (some st) (bs1Q P nn d ty x) e (fun x => x = E1) := by
 unfold bs1E at h; unfold bs1Q
 split at h
 ·cases h
 ·rename_i ti ht; rw [ht]; dsimp only
  split at h
  ·cases h
  ·rename_i el hel; rw [hel]; dsimp only
   split at h
   ·cases h
   ·rename_i te hte; rw [hte]; dsimp only
    split at h
    ·cases h
    ·rename_i av hx; rw [y_opd hr hx]; rw [hx] at he
     split at h
     ·rename_i hp; rw [hp]; exact y_buildSlice (by simp [hr]) hw h
     ·rename_i hp; rw [hp]; dsimp only
      split at h
      ·rename_i hc; rw [if_pos hc]; exact y_moveSlice hw he h
      ·cases h
theorem y_bs {ty : TypeId} {n : Nat} {ps : List (Nat × Operand)} (hr : ps.all (fun p => rsO st p.2 && elO st d (opE e p.2)) = true) (hw : wsO st d = true) (h : bsE P nn d ty n ps e = some E1) : qrun ct (some st) (bsQ P nn d ty n ps) e (fun x => x = E1) := by
 unfold bsE at h; unfold bsQ
 split at h
 ·simp only [List.all_cons, List.all_nil, Bool.and_true, Bool.and_eq_true] at hr
  exact y_bs1 hr.1 hr.2 hw h
 ·rename_i n' ps' hne
  have hr2 : ps.all (fun p => rsO st p.2) = true := List.all_eq_true.2 fun p hp => by
   have := List.all_eq_true.1 hr p hp
   simp only [Bool.and_eq_true] at this
   exact this.1
  split
  ·exact (hne _ rfl rfl).elim
  ·exact y_buildSlice hr2 hw h
theorem y_bnd {x : Option Operand} {k : Option Int → Q} {n : Option Int} (hr : bndO st x = true) (h : bndE e x = some n) : qrun ct (some st) (bndQ x k) e K = qrun ct (some st) (k n) e K := by
 unfold bndE at h; unfold bndQ
 split at h
 ·cases h; rfl
 ·split at h
  ·cases h
  ·rename_i m hm; cases h; exact y_iop hr hm
theorem y_slice {s : TypeId} {x : Operand} {lo hi : Option Operand} (hrx : rsO st x = true) (hrl : bndO st lo = true) (hrh : bndO st hi = true) (hw : wsO st d = true) (hsx : subO st (opE e x) = true) (htx : tkO st (opE e x) = true) (h : sliceE P nn d s x lo hi e = some E1) : qrun ct (some st) (sliceQ P nn d s x lo hi) e (fun x => x = E1) := by
 unfold sliceE at h; unfold sliceQ
 split at h
 ·cases h
 ·rename_i ti ht; rw [ht]; try dsimp only
  split at h
  ·cases h
  ·rename_i el hel; rw [hel]; try dsimp only
   split at h
   ·cases h
   ·rename_i te hte; rw [hte]; try dsimp only
    split at h
    ·cases h
    ·rename_i av hx; rw [y_opd hrx hx]; rw [hx] at hsx htx
     split at h
     ·cases h
     ·rename_i l hl; rw [y_bnd hrl hl]
      split at h
      ·cases h
      ·rename_i m hm; rw [y_bnd hrh hm]
       unfold slAvE at h
       split at h
       ·try dsimp only
        split at h
        ·rename_i hc; rw [if_pos hc]; exact y_out hw h
        ·cases h
       ·try dsimp only
        split at h
        ·cases h
        ·try dsimp only
         split at h
         ·rename_i hc; rw [if_pos hc, r_sub hsx]
          split at h
          ·rename_i hsub; rw [hsub]; try dsimp only
           split at h
           ·rename_i hk; rw [if_pos hk]
            obtain ⟨rfl, rfl, -⟩ := hc
            exact y_set hw (by rw [List.all_append, holesU_ok htx]; simp only [List.all_cons, List.all_nil, Upd.okB, Bool.and_true, Bool.true_and]; exact hw) h
           ·cases h
          ·cases h
         ·cases h
       ·cases h
theorem y_mm {mx : Bool} {x y : Operand} (hrx : rsO st x = true) (hry : rsO st y = true) (hw : wsO st d = true) (h : mmE nn d mx x y e = some E1) : qrun ct (some st) (mmQ nn d mx x y) e (fun x => x = E1) := by
 unfold mmE at h; unfold mmQ
 split at h
 ·cases h
 ·rename_i av hx; rw [y_opd hrx hx]
  split at h
  ·cases h
  ·rename_i av2 hy; rw [y_opd hry hy]
   unfold mmAvE at h
   split at h
   ·exact y_out hw h
   ·cases h
theorem y_wholes {no : List Nat} : ∀ {rs : List (Nat × Nat)} {css : List (List C)} {k : List (List C) → Q}, (rs.all fun x => st.rd.contains x.1) = true → (rs.all fun x => !no.contains x.1) = true → wholesE e rs = some css → qrun ct (some st) (wholesQ no rs k) e K = qrun ct (some st) (k css) e K
 | [], css, k, _, _, h => by cases h; rfl
 | (r, g) :: rs, css, k, hrd, hno, h => by
  unfold wholesE at h; unfold wholesQ
  rw [List.all_cons, Bool.and_eq_true] at hno hrd
  rw [if_pos (by simpa using hno.1), r_whole hrd.1]
  split at h
  ·cases h
  ·rename_i t ys hw
   rw [hw]
   dsimp only
   split at h
   ·cases h
   ·rename_i css' hc
    cases h
    rw [y_wholes hrd.2 hno.2 hc]
theorem y_caps : ∀ {xs : List Operand} {rs : List (Nat × Nat)} {k : List (Nat × Nat) → Q}, xs.all (rsO st) = true → capsE e xs = some rs → qrun ct (some st) (capsQ xs k) e K = qrun ct (some st) (k rs) e K
 | [], rs, k, _, h => by cases h; rfl
 | x :: xs, rs, k, hr, h => by
  rw [List.all_cons, Bool.and_eq_true] at hr
  unfold capsE at h; unfold capsQ
  split at h
  ·cases h
  ·rename_i rg hb
   cases hx : opE e x with
   | none => rw [hx] at hb; cases hb
   | some av =>
    rw [hx] at hb
    have hb : isBoxP av = some rg := hb
    rw [y_opd hr.1 hx, hb]
    dsimp only
    split at h
    ·cases h
    ·rename_i l hl
     cases h
     rw [y_caps hr.2 hl]
theorem y_mkFn {g : FuncId} {caps : List Operand} (hr : caps.all (rsO st) = true) (hw : wsO st d = true) (h : mkFnE nn d g caps e = some E1) : qrun ct (some st) (mkFnQ nn d g caps) e (fun x => x = E1) := by
 unfold mkFnE at h; unfold mkFnQ
 split at h
 ·cases h
 ·rename_i rs hc; rw [y_caps hr hc]; exact y_out hw h
theorem y_op (h0 : opOk st o.dst o.op e = true) (h : opX P nn o.dst o.op e = some E1) : qrun ct (some st) (opQ P nn o) e (fun x => x = E1) := by
 unfold opX at h; unfold opQ
 split at h <;> rename_i ho <;> (try rw [ho]) <;> (try rw [ho] at h0) <;> (try simp only [opOk, Bool.and_eq_true] at h0)
 ·exact y_mv h0.1.1 h0.1.2 h0.2 h
 ·exact y_assign h0.1.1.1 h0.1.1.2 h0.1.2 h0.2 h
 ·exact y_pick h0.1.1.1 h0.1.1.2 h0.1.2 h0.2 h
 ·exact y_alloc h0 h
 ·exact y_box h0.1.1 h0.1.2 h0.2 h
 ·exact y_load h0.1.1 h0.1.2 h0.2 h
 ·exact y_store h0.1.1.1.1.1 h0.1.1.1.1.2 h0.1.1.1.2 h0.1.1.2 h0.1.2 h0.2 h
 ·exact y_bin h0.1.1 h0.1.2 h0.2 h
 ·exact y_un h0.1 h0.2 h
 ·exact y_fieldAddr h0.1.1 h0.1.2 h0.2 h
 ·exact y_indexAddr h0.1.1.1 h0.1.1.2 h0.1.2 h0.2 h
 ·exact y_make h0.1.1 h0.1.2 h0.2 h
 ·exact y_extract h0.1.1 h0.1.2 h0.2 h
 ·exact y_build h0.1 h0.2 h
 ·exact y_len h0.1.1 h0.1.2 h0.2 h
 ·exact y_mkFn h0.1 h0.2 h
 ·exact y_bs h0.1 h0.2 h
 ·dsimp only
  split at h
  ·rename_i hs; rw [if_pos hs]; exact y_append h0.1.1.1.1.1.1 h0.1.1.1.1.1.2 h0.1.1.1.1.2 h0.1.1.1.2 h0.1.1.2 h0.1.2 h0.2 h
  ·cases h
 ·exact y_slice h0.1.1.1.1.1 h0.1.1.1.1.2 h0.1.1.1.2 h0.1.1.2 h0.1.2 h0.2 h
 ·exact y_mm h0.1.1 h0.1.2 h0.2 h
 ·exact y_mm h0.1.1 h0.1.2 h0.2 h
 ·cases h
theorem y_gop {s : Nat} {b : Option Bool} {k : Option Bool → Q} (hr : st.rs.contains s = true) (h : gopE e s = some b) : qrun ct (some st) (.slot s fun av => guardQ av k) e K = qrun ct (some st) (k b) e K := by
 rw [r_slot hr]
 unfold gopE at h
 generalize slotView s (e.gen s) (e.s s) = av at h
 unfold gvE at h; unfold guardQ
 split at h <;> cases h <;> rfl
theorem y_g (h0 : gOk st ds o e = true) (h : gX P nn ds o e = some E1) : qrun ct (some st) (gQ P nn ds o) e (fun x => x = E1) := by
 unfold gX at h; unfold gQ; unfold gOk at h0
 split at h
 ·rename_i hg; rw [hg] at h0 ⊢; exact y_op h0 h
 ·rename_i j want hg; rw [hg] at h0 ⊢
  dsimp only at h0 ⊢
  split at h
  ·rename_i dj hdj; rw [hdj] at h0 ⊢
   dsimp only at h0 ⊢
   split at h
   ·cases h
   ·rename_i b hb
    rw [hb] at h0
    simp only [Bool.and_eq_true] at h0
    refine Eq.mpr (y_gop h0.1.1 hb) ?_
    split at h
    ·rename_i hw; rw [if_pos hw]
     have h1 := h0.2
     subst hw
     simp only [BEq.rfl, Bool.not_true, Bool.false_or] at h1
     exact y_op h1 h
    ·rename_i hw; rw [if_neg hw]
     have hws := h0.1.2
     unfold skipE at h; unfold skipQ
     split at h
     ·rename_i d hd; rw [hd] at hws ⊢; exact y_set hws rfl h
     ·rename_i hd; cases h; rw [hd]; exact (r_ups (us := []) rfl).mpr rfl
  ·cases h
theorem y_arg {no : List Nat} {av : AV} {a : Arg} {k : Bool → Arg → Q} (hno : noOk no av = true) (hs0 : subO st (some av) = true) (h : argE e av = some a) : qrun ct (some st) (argQ no av k) e K = qrun ct (some st) (k (roE e av) a) e K := by
 unfold argE at h; unfold argQ roE
 split at h
 ·cases h; rfl
 ·cases h; rfl
 ·dsimp only
  split at h
  ·rename_i hn; rw [if_pos ⟨hn, by simpa [noOk] using hno⟩]
   split at h
   ·cases h
   ·rename_i cs hs; rw [y_subs hs0 hs]
    split at h
    ·cases h; simp only [hs]
    ·cases h; simp only [hs, List.all_cons, List.all_nil, Bool.and_true]
    ·cases h
  ·cases h
 ·cases h; rfl
 ·cases h; rfl
 ·dsimp only
  split at h
  ·cases h
  ·rename_i css hc; cases h; rw [y_wholes hs0 hno hc]
 ·cases h
theorem y_args {no : List Nat} : ∀ {xs : List Operand} {as : List Arg} {k : Bool → List Arg → Q}, (∀ r, no.contains r = true → xs.all (notO e r) = true) → xs.all (rsO st) = true → xs.all (fun x => subO st (opE e x)) = true → argsE e xs = some as → qrun ct (some st) (argsQ no xs k) e K = qrun ct (some st) (k (rosE e xs) as) e K
 | [], as, k, _, _, _, h => by cases h; rfl
 | x :: xs, as, k, hno, hr, hs, h => by
  rw [List.all_cons, Bool.and_eq_true] at hr hs
  unfold argsE at h; unfold argsQ rosE
  split at h
  ·cases h
  ·rename_i av hx; rw [y_opd hr.1 hx]; have hs1 := hs.1; rw [hx] at hs1
   split at h
   ·cases h
   ·rename_i a ha
    have hno1 : noOk no av = true := noOk_some (fun r hr => by have := hno r hr; rw [List.all_cons, Bool.and_eq_true] at this; exact this.1) hx
    rw [y_arg hno1 hs1 ha]
    split at h
    ·cases h
    ·rename_i as' has; cases h; rw [y_args (fun r hr => by have := hno r hr; rw [List.all_cons, Bool.and_eq_true] at this; exact this.2) hr.2 hs.2 has]
theorem y_recv {d : Nat} {f : FuncId} {xs : List Operand} {as : List Arg} (hr : xs.all (rsO st) = true) (hs : xs.all (fun x => subO st (opE e x)) = true) (h : argsE e xs = some as) (hq : qrun ct (some st) (.call f (rosE e xs) as (retU d)) e K) : qrun ct (some st) (recvQ nn d f xs) e K := by
 cases xs with
 | nil => cases h; exact hq
 | cons x xs =>
  rw [List.all_cons, Bool.and_eq_true] at hr hs
  unfold recvQ
  dsimp only
  unfold argsE at h
  split at h
  ·cases h
  ·rename_i av hx; rw [y_opd hr.1 hx]; have hs1 := hs.1; rw [hx] at hs1
   split at h
   ·cases h
   ·rename_i a ha
    rw [(argE_box ha).1]
    dsimp only
    refine .inl ?_
    rw [y_arg (noOk_none _) hs1 ha]
    split at h
    ·cases h
    ·rename_i as' has
     cases h
     rw [y_args (fun r hr => by cases hr) hr.2 hs.2 has]
     unfold rosE at hq
     simp only [hx] at hq
     exact hq
theorem y_recvio {d r g : Nat} {f : FuncId} {t : TypeId} {ys : List C} {x : Operand} {xs : List Operand} {as : List Arg} (hrx : rsO st x = true) (hr : xs.all (rsO st) = true) (hs : xs.all (fun x => subO st (opE e x)) = true) (hrd : st.rd.contains r = true) (hx : boxpE (opE e x) = some (r, g)) (hdr : d ≠ r) (hw : e.whole r g = some (t, ys)) (hno : xs.all (notO e r) = true) (h : argsE e xs = some as) (hq : qrun ct (some st) (.call f (rosE e xs) (.io t ys :: as) (ioU r d)) e K) : qrun ct (some st) (recvQ nn d f (x :: xs)) e K := by
 unfold recvQ
 dsimp only
 cases hav : opE e x with
 | none => rw [hav] at hx; cases hx
 | some av =>
  rw [hav] at hx
  have hx : isBoxP av = some (r, g) := hx
  rw [y_opd hrx hav, hx]
  dsimp only
  rw [if_pos hdr, r_whole hrd, hw]
  dsimp only
  refine .inl ?_
  rw [y_args (fun r' hr' => by simp at hr'; subst hr'; exact hno) hr hs h]
  exact hq
end
end
section
open Go Go.RowKit
def numL : Nat → List Oper → List (Nat × Oper)
 | _, [] => []
 | k, o :: l => (k, o) :: numL (k + 1) l
theorem numL_fst : ∀ (k : Nat) (l : List Oper), (numL k l).map Prod.fst = List.range' k l.length
 | _, [] => rfl
 | k, o :: l => by unfold numL; rw [List.map_cons, numL_fst (k + 1) l, List.length_cons, List.range'_succ]
theorem numL_mem : ∀ (k : Nat) (l : List Oper) (p : Nat × Oper), p ∈ numL k l → k ≤ p.1 ∧ l[p.1 - k]? = some p.2
 | _, [], p, h => by cases h
 | k, o :: l, p, h => by
  unfold numL at h
  rcases List.mem_cons.1 h with rfl | h
  ·simp
  ·obtain ⟨h1, h2⟩ := numL_mem (k + 1) l p h
   refine ⟨by omega, ?_⟩
   rw [show p.1 - k = p.1 - (k + 1) + 1 from by omega, List.getElem?_cons_succ]; exact h2
structure Dops (P : Program) (pa : Nat → Res → Prop) (st : Nat → Stat) (nn : Nat) (ds : List (Option Nat)) (ops : Array Oper) (l : List (Nat × Oper)) (e : Env) (K : Env → Prop) : Prop where
 out : dsts ops = ds → (∀ p ∈ l, ops[p.1]? = some p.2) → arun P nn (oneCt P fun i _ => pa i) (fun i => some (st i)) ops (l.map Prod.fst) e K
section
variable {P : Program} {pa : Nat → Res → Prop} {st : Nat → Stat} {nn : Nat} {ds : List (Option Nat)} {ops : Array Oper} {l : List (Nat × Oper)} {e E1 : Env} {K : Env → Prop} {w0 : Base} {Q : Exit → Env → Prop} {i : Nat} {o : Oper}
theorem dw_regionD_k {id : Nat} (st : Nat → Stat) (pa : Nat → Res → Prop) (hn : e.n = nn) (hd : dsts ops = ds) (hs : numL 0 ops.toList = l) (hm : P.follows .mixedOrders = true) (hreg : regB ops st = true) (h : ∀ K : Env → Prop, (∀ e', Q .normal e' → K e') → Dops P pa st nn ds ops l e K) : DW P w0 (.region id ops true) Q e := dw_regionD st (fun i _ => pa i) hm hreg (by
 have h1 := (h _ fun _ h => h).out hd (fun p hp => by
  rw [← hs] at hp
  have := (numL_mem _ _ _ hp).2
  simpa using this)
 rw [← hs, numL_fst] at h1
 rw [hn, List.range_eq_range']
 simpa using h1)
theorem dops_end (h : K e) : Dops P pa st nn ds ops [] e K := ⟨fun _ _ => h⟩
theorem dops_ev (_ : notCall o.op = true) (h0 : gOk (st i) ds o e = true) (h : gX P nn ds o e = some E1) (h2 : Dops P pa st nn ds ops l E1 K) : Dops P pa st nn ds ops ((i, o) :: l) e K := ⟨fun hd hl => by
 rw [List.map_cons]
 unfold arun
 rw [hl (i, o) (by simp)]
 dsimp only
 rw [hd]
 exact qrun_mono (fun e' he => by rw [he]; exact h2.out hd fun p hp => hl p (by simp [hp])) _ (y_g h0 h)⟩
theorem dops_call {s : Nat} {f : FuncId} {args : List Operand} {as : List Arg} {Post : Res → Prop} (hg : o.guard = none) (hc : callsTo o s f args) (hd : s < nn) (hm : callOk P f = true) (hw : (st i).ws.contains s = true) (hr : args.all (rsO (st i)) = true) (hsu : args.all (fun x => subO (st i) (opE e x)) = true) (ha : argsE e args = some as) (hp : DCalls P f as Post) (hpa : Post = pa i) (hex : ∃ r, Post r) (h2 : ∀ r, Post r → Dops P pa st nn ds ops l (e.set s (resAV r) fun i => resCon r (0, i)) K) : Dops P pa st nn ds ops ((i, o) :: l) e K := ⟨fun hds hl => by
 obtain ⟨h1, ts, h3⟩ := hc
 rw [List.map_cons]
 unfold arun
 rw [hl (i, o) (by simp)]
 dsimp only
 unfold gQ; rw [hg]
 dsimp only
 unfold opQ; rw [h3]
 show qrun _ _ (callQ P nn o.dst f args) _ _
 unfold callQ; rw [h1]
 dsimp only
 rw [if_pos ⟨hd, hm⟩]
 refine y_recv hr hsu ha ?_
 refine ⟨Post, ⟨hpa, by rw [xcalls_plain (argsE_io ha)]; exact .inl hp, hex⟩, fun r hr => ⟨fun x hx => ?_, (h2 r hr).out hds fun p hp => hl p (by simp [hp])⟩⟩
 cases hx
 simp only [retU, List.all_cons, List.all_nil, Upd.okB, Bool.and_true]
 exact hw⟩
theorem dops_callio {s r g : Nat} {t : TypeId} {ys : List C} {f : FuncId} {x : Operand} {xs : List Operand} {as : List Arg} {Post : Res → Prop} (hg : o.guard = none) (hc : callsTo o s f (x :: xs)) (hd : s < nn) (hm : callOk P f = true) (hw : (st i).ws.contains s = true) (hrx : rsO (st i) x = true) (hrd : (st i).rd.contains r = true) (hpb : (st i).pB r 1 = true) (hr : xs.all (rsO (st i)) = true) (hsu : xs.all (fun x => subO (st i) (opE e x)) = true) (hx : boxpE (opE e x) = some (r, g)) (hsr : s ≠ r) (hwh : e.whole r g = some (t, ys)) (hno : xs.all (notO e r) = true) (ha : argsE e xs = some as) (hp : SCalls P f t ys as Post ∨ (rosE e xs = true ∧ ACalls P f (.io t ys :: as) Post)) (hpa : Post = pa i) (hex : ∃ r, Post r) (h2 : ∀ r', Post r' → Dops P pa st nn ds ops l (upds (ioU r s r') e) K) : Dops P pa st nn ds ops ((i, o) :: l) e K := ⟨fun hds hl => by
 obtain ⟨h1, ts, h3⟩ := hc
 rw [List.map_cons]
 unfold arun
 rw [hl (i, o) (by simp)]
 dsimp only
 unfold gQ; rw [hg]
 dsimp only
 unfold opQ; rw [h3]
 show qrun _ _ (callQ P nn o.dst f (x :: xs)) _ _
 unfold callQ; rw [h1]
 dsimp only
 rw [if_pos ⟨hd, hm⟩]
 refine y_recvio hrx hr hsu hrd hx hsr hwh hno ha ?_
 refine ⟨Post, ⟨hpa, by rw [xcalls_io (argsE_io ha)]; exact hp, hex⟩, fun r' hr' => ⟨fun x hx => ?_, (h2 r' hr').out hds fun p hp => hl p (by simp [hp])⟩⟩
 cases hx
 unfold ioU
 split
 ·rw [List.all_append, putsU_ok (p := [(0, 0)]) hpb]
  simp only [List.all_cons, List.all_nil, Upd.okB, Bool.and_true, Bool.true_and]
  exact hw
 ·rfl⟩
theorem dops_to {e' : Env} (h : e = e') (h2 : Dops P pa st nn ds ops l e' K) : Dops P pa st nn ds ops l e K := h ▸ h2
end
end
end Go.Proofs.YtdiiggpohcjppaaGreat
