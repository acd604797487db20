/- Parts of the proof, joined: Dk, Dl. -/
import Derived.Test.YtdiiggpohcjppaaGreatCJn3
import Derived.Laws.StructEq
set_option linter.unusedSimpArgs false
set_option linter.unusedVariables false
namespace Go.Proofs.YtdiiggpohcjppaaGreat
section
open Go Go.RowKit
def binV (op : BinOp) (x y : Value) : Option Value := match x, y with
 | .int k a, .int k' b => if k = k' then (match op with
  | .add => some (.int k (k.wrap (a + b)))
  | .sub => some (.int k (k.wrap (a - b)))
  | .mul => some (.int k (k.wrap (a * b)))
  | .quo => if b = 0 then none else some (.int k (k.wrap (a.tdiv b)))
  | .rem => if b = 0 then none else some (.int k (a.tmod b))
  | .eql => some (.bool (a == b))
  | .neq => some (.bool (a != b))
  | .lss => some (.bool (a < b))
  | .leq => some (.bool (a ≤ b))
  | .gtr => some (.bool (a > b))
  | .geq => some (.bool (a ≥ b))
  | _ => none) else none
 | .string a, .string b => match op with
  | .add => if a.size + b.size ≤ 4611686018427387904 then some (.string (a ++ b)) else none
  | .eql => some (.bool (a.toList == b.toList))
  | .neq => some (.bool (!(a.toList == b.toList)))
  | _ => none
 | _, _ => none
theorem binV_run {P : Program} {w : World} {op : BinOp} {ty : TypeId} {ox oy : Operand} {x y v : Value} (h : binV op x y = some v) : ((do eqGuard op ty ox oy x y; binOp op ty x y : Sem Value)).run P w = .ok v w := by
 have hg : (eqGuard op ty ox oy x y).run P w = .ok () w := by
  unfold binV at h
  split at h
  ·unfold eqGuard; split <;> rfl
  ·unfold eqGuard; split <;> rfl
  ·cases h
 rw [Sem.run_bind, hg]
 simp only [Result.andThen_ok]
 unfold binV at h
 split at h
 ·rename_i k a k' b
  split at h
  ·rename_i hk
   subst hk
   cases op <;> simp only at h <;> first
    | (cases h; done)
    | (cases h; simp [binOp, Op.intArith]; done)
    | (cases h; simp [binOp, Op.intCmp]; done)
    | (split at h
       ·cases h
       ·rename_i hb
        cases h
        simp [binOp, Op.intDiv, hb])
  ·cases h
 ·rename_i a b
  cases op <;> simp only at h <;> first
   | (cases h; done)
   | (cases h; simp [binOp, Op.stringOp]; done)
   | (split at h
      ·rename_i hb
       cases h
       have : ¬ (((a.size + b.size : Nat) : Int) > IntKind.i64.max) := by
        have : IntKind.i64.max = 9223372036854775807 := by decide
        rw [this]; omega
       simp only [binOp, Op.stringOp]
       rw [if_neg this]
       rfl
      ·cases h)
 ·cases h
def boolTy (P : Program) (ty : TypeId) : Bool := match P.underlying ty with
 | some .bool => true
 | _ => false
def boolV (P : Program) (op : BinOp) (ty : TypeId) (x y : Value) : Option Value := match op, x, y with
 | .eql, .bool a, .bool b => if boolTy P ty = true then some (.bool (a == b)) else none
 | .neq, .bool a, .bool b => if boolTy P ty = true then some (.bool (!(a == b))) else none
 | _, _, _ => none
def andI (k : IntKind) (a b : Int) : Int := k.wrap (BitVec.ofInt k.bits a &&& BitVec.ofInt k.bits b).toNat
def orI (k : IntKind) (a b : Int) : Int := k.wrap (BitVec.ofInt k.bits a ||| BitVec.ofInt k.bits b).toNat
def shV (op : BinOp) (x y : Value) : Option Value := match op, x, y with
 | .shl, .int k a, .int _ b => if b < 0 then none else some (.int k (k.wrap (a * 2 ^ min b.toNat k.bits)))
 | .shr, .int k a, .int _ b => if b < 0 then none else some (.int k (a.fdiv (2 ^ min b.toNat k.bits)))
 | .and, .int k a, .int k' b => if k = k' then some (.int k (andI k a b)) else none
 | .or, .int k a, .int k' b => if k = k' then some (.int k (orI k a b)) else none
 | _, _, _ => none
theorem eqGuard_plain {P : Program} {w : World} {op : BinOp} {ty : TypeId} {ox oy : Operand} {x y : Value} (hx : (∃ b, x = .bool b) ∨ ∃ k n, x = .int k n) : (eqGuard op ty ox oy x y).run P w = .ok () w := by
 unfold eqGuard
 rcases hx with ⟨b, rfl⟩ | ⟨k, n, rfl⟩ <;> split <;> rfl
theorem boolV_run {P : Program} {w : World} {op : BinOp} {ty : TypeId} {ox oy : Operand} {x y v : Value} (h : boolV P op ty x y = some v) : ((do eqGuard op ty ox oy x y; binOp op ty x y : Sem Value)).run P w = .ok v w := by
 have ht : ∀ {a b : Bool} {c : Value}, (if boolTy P ty = true then some c else none) = some v → P.underlying ty = some .bool ∧ c = v := fun {a b c} h => by
  split at h
  ·rename_i hb
   refine ⟨?_, Option.some.inj h⟩
   unfold boolTy at hb
   split at hb
   ·assumption
   ·cases hb
  ·cases h
 unfold boolV at h
 split at h
 ·rename_i a b
  obtain ⟨hu, rfl⟩ := ht (a := a) (b := b) h
  rw [Sem.run_bind, eqGuard_plain (.inl ⟨_, rfl⟩)]
  simp only [Result.andThen_ok, binOp, Sem.run_bind, run_equal_bool w ty a b hu, Sem.run_pure]
 ·rename_i a b
  obtain ⟨hu, rfl⟩ := ht (a := a) (b := b) h
  rw [Sem.run_bind, eqGuard_plain (.inl ⟨_, rfl⟩)]
  simp only [Result.andThen_ok, binOp, Sem.run_bind, run_equal_bool w ty a b hu, Sem.run_pure]
 ·cases h
theorem shV_run {P : Program} {w : World} {op : BinOp} {ty : TypeId} {ox oy : Operand} {x y v : Value} (h : shV op x y = some v) : ((do eqGuard op ty ox oy x y; binOp op ty x y : Sem Value)).run P w = .ok v w := by
 unfold shV at h
 split at h
 ·rename_i k a k' b
  split at h
  ·cases h
  ·rename_i hb
   cases h
   rw [Sem.run_bind, eqGuard_plain (.inr ⟨_, _, rfl⟩)]
   simp [binOp, Op.shift, hb]
 ·rename_i k a k' b
  split at h
  ·cases h
  ·rename_i hb
   cases h
   rw [Sem.run_bind, eqGuard_plain (.inr ⟨_, _, rfl⟩)]
   simp [binOp, Op.shift, hb]
 ·rename_i k a k' b
  split at h
  ·rename_i hk
   subst hk
   cases h
   rw [Sem.run_bind, eqGuard_plain (.inr ⟨_, _, rfl⟩)]
   simp [binOp, Op.intBits, andI]
  ·cases h
 ·rename_i k a k' b
  split at h
  ·rename_i hk
   subst hk
   cases h
   rw [Sem.run_bind, eqGuard_plain (.inr ⟨_, _, rfl⟩)]
   simp [binOp, Op.intBits, orI]
  ·cases h
 ·cases h
def intFields (P : Program) (ty : TypeId) : Option (List Nat) := match P.underlying ty with
 | some (.struct fs) => if P.stoodInHeld ty = false ∧ P.eqGuardType P.depth ty = false ∧ fs.toList.all (fun f => f.name != "_" && (match P.underlying f.type with
  | some (.int _) => true
  | _ => false)) = true then some (fs.toList.map (·.offset)) else none
 | _ => none
def eqOffs (xs ys : List C) : List Nat → Option Bool
 | [] => some true
 | i :: l => match xs[i]?, ys[i]? with
  | some (.p (.int k a)), some (.p (.int k' b)) => if k = k' then (match eqOffs xs ys l with
   | some r => some (a == b && r)
   | none => none) else none
  | _, _ => none
theorem part_int {P : Program} {w : World} {ty : TypeId} {k : IntKind} {xs : Array Value} {off : Nat} {v : Value} (hu : P.underlying ty = some (.int k)) (hx : xs[off]? = some v) : (part ty xs off).run P w = .ok v w := by
 have ha : (isAgg ty).run P w = .ok false w := by
  simp only [isAgg, Sem.run_bind, run_underlying hu, Result.andThen_ok]; rfl
 simp only [part, Sem.run_bind, ha, Result.andThen_ok, hx]
 simp
theorem eqFields_run {P : Program} {w : World} {S : Nat → Prop} {xs ys : List C} {va vb : Array Value} (hx : ROs w S xs va) (hy : ROs w S ys vb) (d : Nat) : ∀ (fs : List Field) (r : Bool), (fs.all (fun f => f.name != "_" && (match P.underlying f.type with
 | some (.int _) => true
 | _ => false)) = true) → eqOffs xs ys (fs.map (·.offset)) = some r → (Op.eqFields (d + 1) va vb fs).run P w = .ok r w
 | [], r, _, h => by cases h; rfl
 | f :: fs, r, hf, h => by
  rw [List.all_cons, Bool.and_eq_true, Bool.and_eq_true] at hf
  obtain ⟨⟨h1, h2⟩, h3⟩ := hf
  have hk : ∃ k, P.underlying f.type = some (.int k) := by
   split at h2
   ·exact ⟨_, by assumption⟩
   ·cases h2
  obtain ⟨k0, hk⟩ := hk
  rw [List.map_cons] at h
  unfold eqOffs at h
  split at h
  ·rename_i k a k' b e1 e2
   split at h
   ·rename_i hkk
    subst hkk
    split at h
    ·rename_i r' hr'
     cases h
     obtain ⟨u, g1, g2⟩ := hx.2 _ _ e1
     obtain ⟨u', g3, g4⟩ := hy.2 _ _ e2
     have q1 : u = .int k a := by cases g2; rfl
     have q2 : u' = .int k b := by cases g4; rfl
     subst q1 q2
     have ih := eqFields_run hx hy d fs r' h3 hr'
     unfold Op.eqFields
     rw [if_pos (by simpa using h1)]
     simp only [Sem.run_bind, part_int hk g1, part_int hk g3, Result.andThen_ok, run_equalIn_int w d f.type k k0 a b hk]
     cases hab : (a == b) with
     | true => simp [ih]
     | false => simp
    ·cases h
   ·cases h
  ·cases h
theorem intFields_spec {P : Program} {ty : TypeId} {l : List Nat} (h : intFields P ty = some l) : P.underlying ty = some (.struct (P.fieldsOf ty)) ∧ P.stoodInHeld ty = false ∧ P.eqGuardType P.depth ty = false ∧ (P.fieldsOf ty).toList.all (fun f => f.name != "_" && (match P.underlying f.type with
 | some (.int _) => true
 | _ => false)) = true ∧ l = (P.fieldsOf ty).toList.map (·.offset) := by
 unfold intFields at h
 split at h
 ·rename_i fs hu
  have hfs : P.fieldsOf ty = fs := by unfold Program.fieldsOf; rw [hu]
  split at h
  ·rename_i hh
   cases h
   rw [hfs]
   exact ⟨hu, hh.1, hh.2.1, hh.2.2, rfl⟩
  ·cases h
 ·cases h
def binAV (P : Program) (op : BinOp) (ty : TypeId) (x y : AV) : Option Value := match x, y with
 | .c (.p u), .c (.p v) => (match binV op u v with
  | some z => some z
  | none => match boolV P op ty u v with
   | some z => some z
   | none => shV op u v)
 | .agg xs, .agg ys => (match intFields P ty with
  | none => none
  | some l => match op with
   | .eql => (match eqOffs xs ys l with
    | some r => some (.bool r)
    | none => none)
   | .neq => (match eqOffs xs ys l with
    | some r => some (.bool (!r))
    | none => none)
   | _ => none)
 | _, _ => none
def unV (op : UnOp) (x : Value) : Option Value := match op, x with
 | .not, .bool b => some (.bool (!b))
 | .neg, .int k n => some (.int k (k.wrap (0 - n)))
 | _, _ => none
theorem unV_run {P : Program} {w : World} {op : UnOp} {x v : Value} (h : unV op x = some v) : (Op.unary op x).run P w = .ok v w := by
 unfold unV at h
 split at h
 ·cases h; rfl
 ·cases h; rfl
 ·cases h
def plainQ (av : AV) (k : Value → Q) : Q := match av with
 | .c (.p v) => k v
 | _ => .fail
def binQ (P : Program) (nn : Nat) (d : Option Nat) (op : BinOp) (ty : TypeId) (x y : Operand) : Q := opd x fun av => opd y fun av2 => match binAV P op ty av av2 with
 | some z => outQ nn d (.c (.p z))
 | none => .fail
def unQ (nn : Nat) (d : Option Nat) (op : UnOp) (x : Operand) : Q := opd x fun av => plainQ av fun u => match unV op u with
 | some z => outQ nn d (.c (.p z))
 | none => .fail
def subsQ (r g : Nat) (p : Path) : Nat → (List C → Q) → Q
 | 0, k => k []
 | n + 1, k => subsQ r g p n fun cs => .sub r g (cellP p n) fun c => match c with
  | some c => k (cs ++ [c])
  | none => .fail
def holesU (r : Nat) (p : Path) : Nat → List Upd
 | 0 => []
 | n + 1 => holesU r p n ++ [.put r (cellP p n) .hole]
def assignQ (nn : Nat) (d : Option Nat) (x : Operand) : Q := opd x fun av => match av with
 | .ref r g p ag n => if d ≠ some r ∧ 0 < n ∧ (ag = false → n = 1) then subsQ r g p n fun cs => setQ nn d (holesU r p n) (.own ag n) (oneCon ⟨none, cs⟩) else .fail
 | av => outQ nn d av
theorem upds_append (us vs : List Upd) (e : Env) : upds (us ++ vs) e = upds vs (upds us e) := by
 induction us generalizing e with
 | nil => rfl
 | cons u us ih => exact ih _
theorem upds_holes (r : Nat) (p : Path) (e : Env) : ∀ n, upds (holesU r p n) e = e.holes r p n
 | 0 => rfl
 | n + 1 => by
  unfold holesU
  rw [upds_append, upds_holes r p e n]
  rfl
section
variable {P : Program} {nn : Nat} {o : Oper} {ct : Cts} {t : Option Stat} {e : Env} {K : Env → Prop} {w0 : Base} {a : Act} {w : World} {val : Val} {S : Nat → Prop} {Qx : Exit → Act → World → Prop}
theorem plainQ_run {av : AV} {k : Value → Q} (h : qrun ct t (plainQ av k) e K) : ∃ v, av = .c (.p v) ∧ qrun ct t (k v) e K := by
 unfold plainQ at h
 split at h
 ·exact ⟨_, rfl, h⟩
 ·exact h.elim
theorem bin_sound {op : BinOp} {ty ty2 : TypeId} {x y : Operand} (ho : o.op = .binOp op ty x y ty2) : Sound P nn o (binQ P nn o.dst op ty x y) := by
 intro ct t e K w0 a w Qx _ hn hq ⟨val, S, hs⟩
 obtain ⟨av, h1, h2, -⟩ := opd_sv hq hs
 obtain ⟨av2, h4, h5, -⟩ := opd_sv h1 hs
 split at h4
 ·rename_i z hz
  have hrun : ((do eqGuard op ty x y (a.eval x) (a.eval y); binOp op ty (a.eval x) (a.eval y) : Sem Value)).run P w = .ok z w := by
   unfold binAV at hz
   split at hz
   ·rename_i u v
    have hx : a.eval x = u := ro_p (h2 rfl 0)
    have hy : a.eval y = v := ro_p (h5 rfl 0)
    rw [hx, hy]
    split at hz
    ·rename_i z' hz'; cases hz; exact binV_run hz'
    ·split at hz
     ·rename_i z' hz'; cases hz; exact boolV_run hz'
     ·exact shV_run hz
   ·rename_i xs ys
    obtain ⟨va, hx, hxs⟩ := h2 rfl 0
    obtain ⟨vb, hy, hys⟩ := h5 rfl 0
    rw [hx, hy]
    split at hz
    ·cases hz
    ·rename_i l hl
     obtain ⟨g1, g2, g3, g4, rfl⟩ := intFields_spec hl
     rw [Sem.run_bind, run_eqGuard_agg w op ty x y va vb g3]
     simp only [Result.andThen_ok]
     split at hz
     ·split at hz
      ·rename_i r hr
       cases hz
       rw [run_eql_struct, run_equalIn_agg w 9999 ty va vb g1 g2, eqFields_run hxs hys 9998 _ r g4 hr]
       rfl
      ·cases hz
     ·split at hz
      ·rename_i r hr
       cases hz
       rw [run_neq_struct, run_equalIn_agg w 9999 ty va vb g1 g2, eqFields_run hxs hys 9998 _ r g4 hr]
       rfl
      ·cases hz
     ·cases hz
   ·cases hz
  refine out_sound h4 hn hs (Below.refl _ _) (v := z) ?_ fun _ => ⟨0, RO.p z⟩
  unfold execOp
  simp only [ho]
  rw [Sem.run_bind, hrun]
  rfl
 ·exact h4.elim
theorem un_sound {op : UnOp} {ty : TypeId} {x : Operand} (ho : o.op = .unOp op ty x) : Sound P nn o (unQ nn o.dst op x) := by
 intro ct t e K w0 a w Qx _ hn hq ⟨val, S, hs⟩
 obtain ⟨av, h1, h2, -⟩ := opd_sv hq hs
 obtain ⟨u, rfl, h3⟩ := plainQ_run h1
 have hx : a.eval x = u := ro_p (h2 rfl 0)
 split at h3
 ·rename_i z hz
  refine out_sound h3 hn hs (Below.refl _ _) (v := z) ?_ fun _ => ⟨0, RO.p z⟩
  unfold execOp
  simp only [ho, hx]
  rw [Sem.run_bind, unV_run hz]
  rfl
 ·exact h3.elim
theorem sub_spec {r g : Nat} {p : Path} {c : C} (hc : e.sub r g p = some c) : e.fresh r g p ∧ ∃ cn, e.con (r, 0) = some cn ∧ look cn.xs p = some c := by
 unfold Env.sub at hc
 split at hc
 ·rename_i hok
  refine ⟨okB_fresh hok, ?_⟩
  split at hc
  ·rename_i cn hcn; exact ⟨cn, hcn, hc⟩
  ·cases hc
 ·cases hc
theorem subsQ_run {r g : Nat} {p : Path} : ∀ (n : Nat) {k : List C → Q}, qrun ct t (subsQ r g p n k) e K → ∃ cs : List C, cs.length = n ∧ (∀ (i : Nat) (c : C), cs[i]? = some c → e.sub r g (cellP p i) = some c) ∧ qrun ct t (k cs) e K
 | 0, k, h => ⟨[], rfl, fun i c h => by simp at h, h⟩
 | n + 1, k, h => by
  obtain ⟨cs, h1, h2, h3⟩ := subsQ_run n h
  have h4 := h3.2
  cases hc : e.sub r g (cellP p n) with
  | none => rw [hc] at h4; exact h4.elim
  | some c0 =>
   rw [hc] at h4
   refine ⟨cs ++ [c0], by simp [h1], fun i x hx => ?_, h4⟩
   rcases Nat.lt_or_ge i cs.length with hi | hi
   ·rw [List.getElem?_append_left hi] at hx; exact h2 i x hx
   ·rw [List.getElem?_append_right hi] at hx
    have : i - cs.length = 0 := by
     rcases Nat.eq_zero_or_pos (i - cs.length) with h5 | h5
     ·exact h5
     ·rw [List.getElem?_eq_none (by simp; omega)] at hx; cases hx
    rw [this] at hx
    simp at hx
    subst hx
    have : i = n := by omega
    rw [this]; exact hc
theorem subs_spec {r g : Nat} {p : Path} {cs : List C} (hl : 0 < cs.length) (h : ∀ (i : Nat) (c : C), cs[i]? = some c → e.sub r g (cellP p i) = some c) : p ≠ [] ∧ ∃ cn, e.con (r, 0) = some cn ∧ (∀ i, i < cs.length → e.fresh r g (cellP p i)) ∧ ∀ (i : Nat) (c : C), cs[i]? = some c → look cn.xs (cellP p i) = some c := by
 obtain ⟨-, cn, h1, h2⟩ := sub_spec (h 0 _ (List.getElem?_eq_getElem hl))
 refine ⟨look_ne h2, cn, h1, fun i hi => (sub_spec (h i _ (List.getElem?_eq_getElem hi))).1, fun i c hc => ?_⟩
 obtain ⟨-, cn', h3, h4⟩ := sub_spec (h i c hc)
 rw [h1] at h3
 cases h3
 exact h4
theorem assign_sound {x : Operand} (ho : o.op = .assign x ∨ o.op = .move x) : Sound P nn o (assignQ nn o.dst x) := by
 intro ct t e K w0 a w Qx _ hn hq ⟨val, S, hs⟩
 obtain ⟨av, h1, h2, -⟩ := opd_sv hq hs
 have hex : (execOp a.eval o).run P w = .ok (.value (a.eval x)) w := by
  unfold execOp
  rcases ho with ho | ho <;> rw [ho] <;> rfl
 split at h1
 ·rename_i r g p ag n
  split at h1
  ·rename_i hh
   obtain ⟨hd0, hpos, hag⟩ := hh
   obtain ⟨cs, h3, h4, h5⟩ := subsQ_run _ h1
   obtain ⟨d, hd, hdn, hK⟩ := setQ_run h5
   obtain ⟨hp, cn, h6, h7, h8⟩ := subs_spec (by omega) h4
   rw [upds_holes] at hK
   subst h3
   refine wp_value hex ⟨_, hK, valTake val r p d, S, ?_⟩
   rw [hd]
   exact hs.take hp (fun he => hd0 (by rw [hd, he])) (by omega) h6 h8 h7 (fun s => h2 rfl s) hag
  ·exact h1.elim
 ·exact out_sound h1 hn hs (Below.refl _ _) hex fun hp => ⟨0, h2 hp 0⟩
end
end
section
open Go Go.RowKit
def putsU (r : Nat) (p : Path) : Nat → List C → List Upd
 | _, [] => []
 | i, y :: ys => .put r (cellP p i) y :: putsU r p (i + 1) ys
def Env.puts (e : Env) (r : Nat) (p : Path) : Nat → List C → Env
 | _, [] => e
 | i, y :: ys => (e.put r (cellP p i) y).puts r p (i + 1) ys
theorem upds_puts (r : Nat) (p : Path) : ∀ (ys : List C) (i : Nat) (e : Env), upds (putsU r p i ys) e = e.puts r p i ys
 | [], _, _ => rfl
 | y :: ys, i, e => upds_puts r p ys (i + 1) (e.put r (cellP p i) y)
def graftU (s : Nat) (p1 : Path) (r : Nat) (p2 : Path) : Nat → List C → List Upd
 | _, [] => []
 | i, c :: cs => .put s (cellP p1 i) .hole :: .put r (cellP p2 i) c :: graftU s p1 r p2 (i + 1) cs
def Env.grafts (e : Env) (s : Nat) (p1 : Path) (r : Nat) (p2 : Path) : Nat → List C → Env
 | _, [] => e
 | i, c :: cs => ((e.put s (cellP p1 i) .hole).put r (cellP p2 i) c).grafts s p1 r p2 (i + 1) cs
theorem upds_grafts (s : Nat) (p1 : Path) (r : Nat) (p2 : Path) : ∀ (cs : List C) (i : Nat) (e : Env), upds (graftU s p1 r p2 i cs) e = e.grafts s p1 r p2 i cs
 | [], _, _ => rfl
 | c :: cs, i, e => upds_grafts s p1 r p2 cs (i + 1) ((e.put s (cellP p1 i) .hole).put r (cellP p2 i) c)
def storeQ (P : Program) (d : Option Nat) (ty : TypeId) (xa xv : Operand) : Q := match d, tabOf P ty with
 | none, some ti => opd xa fun av => opd xv fun av2 => match av with
  | .ptr r g p k => match cellsOf ti.agg av2 with
   | some ys => if ys.length = ti.size then cellsQ r g p k ti.size fun _ => .ups (putsU r p 0 ys) else .fail
   | none => match av2 with
    | .ref s g2 p2 ag n => if ag = ti.agg ∧ n = ti.size ∧ s ≠ r ∧ (ag = false → n = 1) then cellsQ r g p k ti.size fun _ => subsQ s g2 p2 n fun cs => if cs.all C.one = true then .ups (putsU r p 0 (List.replicate n .hole) ++ graftU s p2 r p 0 cs) else .fail else .fail
    | _ => .fail
  | _ => .fail
 | _, _ => .fail
section
variable {P : Program} {nn : Nat} {o : Oper} {ct : Cts} {t : Option Stat} {e : Env} {K : Env → Prop} {w0 : Base} {a : Act} {w : World} {val : Val} {S : Nat → Prop} {Qx : Exit → Act → World → Prop}
theorem Target.put {r : Nat} {pp : Path} {j q k b o q' : Nat} {cn : Con} {y : C} {u : Value} (h : Target e val r pp j q k b o cn) (hpp : pp ≠ [] → True) : Target (e.put r (pp ++ [(j, q)]) y) (valP val (r, 0) (pp ++ [(j, q)]) u) r pp j q' k b o { cn with xs := puts cn.xs y (pp ++ [(j, q)]) } := by
 have hne : ∀ p' : Path, p' = pp → ¬ ((r, 0) = (r, 0) ∧ p' = pp ++ [(j, q)]) := fun p' hp hh => by
  rw [hp] at hh
  have := congrArg List.length hh.2
  simp at this
 rcases h with ⟨rfl, h1, h4, h2, h3⟩ | ⟨h1, ⟨n, cap, h2⟩, h3⟩
 ·exact .inl ⟨rfl, h1, h4, by rw [valP_ne (hne _ rfl)]; exact h2, h3⟩
 ·refine .inr ⟨h1, ⟨n, cap, by rw [valP_ne (hne _ rfl)]; exact h2⟩, fun t k' rows hl => ?_⟩
  have hhd : (look (puts cn.xs y (pp ++ [(j, q)])) pp).map C.hd = (look cn.xs pp).map C.hd := puts_hd fun hh => by
   have := hh.length_le
   simp at this
   omega
  have hl' : look (puts cn.xs y (pp ++ [(j, q)])) pp = some (.sl true t k' rows) := hl
  rw [hl'] at hhd
  cases hl2 : look cn.xs pp with
  | none => rw [hl2] at hhd; cases hhd
  | some c =>
   rw [hl2] at hhd
   simp only [Option.map_some, Option.some.injEq] at hhd
   cases c with
   | p v => simp [C.hd] at hhd
   | hole => simp [C.hd] at hhd
   | sl own t2 k2 rows2 =>
    cases own with
    | false => simp [C.hd] at hhd
    | true =>
     simp only [C.hd, Hd.own.injEq] at hhd
     rw [hhd.2.1]
     exact h3 t2 k2 rows2 hl2
theorem puts_run {r : Nat} {pp : Path} {j q k b o : Nat} : ∀ (vs : List Value) (ys : List C) (i : Nat) (e : Env) (w : World) (val : Val) (cn : Con), vs.length = ys.length → StV w0 e a w val S → e.con (r, 0) = some cn → (∀ m, i ≤ m → m < i + vs.length → ∃ c, look cn.xs (pp ++ [(j, q + m)]) = some c) →
 Target e val r pp j q k b o cn → (∀ y ∈ ys, y.flat = true) → (∀ (m : Nat) (y : C), ys[m]? = some y → ∃ v, vs[m]? = some v ∧ RO w S y v) → (∀ v ∈ vs, v.oneCell' = true) →
 ∃ w' val' cn', (storeCells ⟨b, o + (j * k + q), none⟩ vs i).run P w = .ok () w' ∧ StV w0 (e.puts r (pp ++ [(j, q)]) i ys) a w' val' S ∧ (e.puts r (pp ++ [(j, q)]) i ys).con (r, 0) = some cn' ∧
  (∀ (m : Nat) (v : Value), vs[m]? = some v → val' (r, 0) (pp ++ [(j, q + (i + m))]) = v) ∧ (∀ (m : Nat) (y : C), ys[m]? = some y → look cn'.xs (pp ++ [(j, q + (i + m))]) = some y) ∧ (∀ m, m < i → val' (r, 0) (pp ++ [(j, q + m)]) = val (r, 0) (pp ++ [(j, q + m)])) ∧
  (∀ m c, m < i → look cn.xs (pp ++ [(j, q + m)]) = some c → look cn'.xs (pp ++ [(j, q + m)]) = some c) ∧ (∀ key, key ≠ (r, 0) → val' key = val key ∧ (e.puts r (pp ++ [(j, q)]) i ys).con key = e.con key)
 | [], [], i, e, w, val, cn, _, hs, hc, _, _, _, _, _ => ⟨w, val, cn, rfl, hs, hc, fun m v h => by simp at h, fun m y h => by simp at h, fun _ _ => rfl, fun _ _ _ h => h, fun _ _ => ⟨rfl, rfl⟩⟩
 | [], y :: ys, _, _, _, _, _, hl, _, _, _, _, _, _, _ => by simp at hl
 | v :: vs, [], _, _, _, _, _, hl, _, _, _, _, _, _, _ => by simp at hl
 | v :: vs, y :: ys, i, e, w, val, cn, hl, hs, hc, hlk, ha, hf, hv, h1 => by
  obtain ⟨c0, hc0⟩ := hlk i (Nat.le_refl _) (by simp)
  obtain ⟨v', hv', hro⟩ := hv 0 y rfl
  cases hv'
  have ha' : Target e val r pp j (q + i) k b o cn := by
   rcases ha with ha | ha
   ·exact .inl ha
   ·exact .inr ha
  have hput := hs.putC hc hc0 ha' (hf y (by simp)) hro
  obtain ⟨hown, cur, ty, hb, hcur, -⟩ := hs.own_block hc hc0 ha'
  have hcell : w.cell? ⟨b, o + (j * k + (q + i)), none⟩ = some (val (r, 0) (pp ++ [(j, q + i)])) := by rw [cell_of_row w b _ cur ty (0, 0) hb]; exact hcur
  have hfr : w.frozen? ⟨b, o + (j * k + (q + i)), none⟩ = false := by simp [World.frozen?, hb]
  have hone : v.oneCell' = true := h1 v (by simp)
  have hc' : (e.put r (pp ++ [(j, q + i)]) y).con (r, 0) = some { cn with xs := puts cn.xs y (pp ++ [(j, q + i)]) } := by simp [Env.put, hc]
  have hmono : ∀ b', S b' → b' < w.heap.size → (w.setCell ⟨b, o + (j * k + (q + i)), none⟩ v).heap[b']? = w.heap[b']? := fun b' hsb _ => Below.heap_setCell _ _ _ _ fun he => by
   subst he
   exact (hs.mem.sep _ hsb).2 _ _ hown
  have hcellP : cellP (pp ++ [(j, q)]) i = pp ++ [(j, q + i)] := cellP_snoc _ _ _ _
  have hap : ∀ m, m ≠ i → ¬ pp ++ [(j, q + i)] <+: pp ++ [(j, q + m)] ∧ ¬ pp ++ [(j, q + m)] <+: pp ++ [(j, q + i)] := fun m hm => by
   constructor <;> intro hh
   ·have := List.append_cancel_left (hh.eq_of_length (by simp)); simp at this; omega
   ·have := List.append_cancel_left (hh.eq_of_length (by simp)); simp at this; omega
  obtain ⟨w', val', cn', k1, k2, k3, k4, k5, k6, k7, k8⟩ := puts_run vs ys (i + 1) (e.put r (pp ++ [(j, q + i)]) y) (w.setCell ⟨b, o + (j * k + (q + i)), none⟩ v) (valP val (r, 0) (pp ++ [(j, q + i)]) v) _ (by simpa using hl) hput hc'
   (fun m hm hm' => by
     obtain ⟨c, hc2⟩ := hlk m (by omega) (by simp; omega)
     exact ⟨c, by rw [puts_apart (hap m (by omega)).1 (hap m (by omega)).2]; exact hc2⟩)
   (by
     have := ha'.put (q' := q) (y := y) (u := v) (fun _ => trivial)
     exact this) (fun y hy => hf y (by simp [hy])) (fun m y' hy => by
     obtain ⟨v2, g1, g2⟩ := hv (m + 1) y' (by simpa using hy)
     exact ⟨v2, by simpa using g1, g2.keep (fun _ h _ => h) hmono⟩) (fun v hv => h1 v (by simp [hv]))
  have hpt : look (puts cn.xs y (pp ++ [(j, q + i)])) (pp ++ [(j, q + i)]) = some y := by
   have := look_puts (y := y) hc0 []
   rwa [List.append_nil, at_nil] at this
  refine ⟨w', val', cn', ?_, ?_, ?_, fun m v2 hm => ?_, fun m y2 hm => ?_, fun m hm => ?_, fun m c hm hc2 => ?_, fun key hk => ?_⟩
  ·unfold storeCells
   rw [addr_off, show o + (j * k + q) + i = o + (j * k + (q + i)) by omega, Sem.run_bind, run_store P w _ v .plain hone, hcell]
   simp only [hfr]
   exact k1
  ·show StV w0 ((e.put r (cellP (pp ++ [(j, q)]) i) y).puts r (pp ++ [(j, q)]) (i + 1) ys) a w' val' S
   rw [hcellP]; exact k2
  ·show ((e.put r (cellP (pp ++ [(j, q)]) i) y).puts r (pp ++ [(j, q)]) (i + 1) ys).con (r, 0) = _
   rw [hcellP]; exact k3
  ·cases m with
   | zero =>
    simp at hm
    subst hm
    have := k6 i (by omega)
    rw [Nat.add_zero, this, valP_at]
   | succ m =>
    have := k4 m v2 (by simpa using hm)
    rw [show i + (m + 1) = i + 1 + m by omega]; exact this
  ·cases m with
   | zero =>
    simp at hm
    subst hm
    rw [Nat.add_zero]
    exact k7 i y (by omega) hpt
   | succ m =>
    have := k5 m y2 (by simpa using hm)
    rw [show i + (m + 1) = i + 1 + m by omega]; exact this
  ·rw [k6 m (by omega), valP_ne fun hh => by
    have := List.append_cancel_left hh.2
    simp at this
    omega]
  ·exact k7 m c (by omega) (by rw [puts_apart (hap m (by omega)).1 (hap m (by omega)).2]; exact hc2)
  ·obtain ⟨g1, g2⟩ := k8 key hk
   refine ⟨?_, ?_⟩
   ·rw [g1]; funext p; exact valP_ne fun hh => hk hh.1
   ·show ((e.put r (cellP (pp ++ [(j, q)]) i) y).puts r (pp ++ [(j, q)]) (i + 1) ys).con key = _
    rw [hcellP, g2]; simp [Env.put, hk]
theorem cellP_apart2 {p : Path} (hp : p ≠ []) {i i' : Nat} (h : i ≠ i') : ¬ cellP p i <+: cellP p i' := fun hh => h (cellP_apart hp hh)
theorem grafts_run {s r : Nat} {p1 p2 : Path} (hsr : s ≠ r) (hp1 : p1 ≠ []) (hp2 : p2 ≠ []) : ∀ (cs : List C) (i : Nat) (e : Env) (val : Val) (cn1 cn2 : Con), StV w0 e a w val S → e.con (s, 0) = some cn1 → e.con (r, 0) = some cn2 →
 (∀ (m : Nat) (c : C), cs[m]? = some c → look cn1.xs (cellP p1 (i + m)) = some c ∧ look cn2.xs (cellP p2 (i + m)) = some .hole ∧ val (r, 0) (cellP p2 (i + m)) = val (s, 0) (cellP p1 (i + m))) →
 ∃ val', StV w0 (e.grafts s p1 r p2 i cs) a w val' S
 | [], _, _, val, _, _, hs, _, _, _ => ⟨val, hs⟩
 | c :: cs, i, e, val, cn1, cn2, hs, h1, h2, h3 => by
  obtain ⟨g1, g2, g3⟩ := h3 0 c rfl
  rw [Nat.add_zero] at g1 g2 g3
  have hg := hs.graft hsr h1 h2 g1 g2 g3
  have hrs : (r, 0) ≠ (s, 0) := fun hh => hsr (by simpa using hh.symm)
  refine grafts_run hsr hp1 hp2 cs (i + 1) _ _ { cn1 with xs := puts cn1.xs .hole (cellP p1 i) } { cn2 with xs := puts cn2.xs c (cellP p2 i) } hg (by simp [Env.put, hsr, h1]) (by simp [Env.put, Ne.symm hsr, h2]) fun m c' hm => ?_
  obtain ⟨k1, k2, k3⟩ := h3 (m + 1) c' (by simpa using hm)
  rw [show i + (m + 1) = i + 1 + m by omega] at k1 k2 k3
  have hne : i ≠ i + 1 + m := by omega
  refine ⟨by rw [puts_apart (cellP_apart2 hp1 hne) (cellP_apart2 hp1 (Ne.symm hne))]; exact k1, by rw [puts_apart (cellP_apart2 hp2 hne) (cellP_apart2 hp2 (Ne.symm hne))]; exact k2, ?_⟩
  unfold valMove
  rw [if_neg fun hh => cellP_apart2 hp2 hne hh.2, if_neg fun hh => hrs (by simpa using hh.1.symm)]
  exact k3
theorem run_storeAt {ty : TypeId} {i : TypeInfo} {b off : Nat} {v : Value} {w' : World} (hi : P.info? ty = some i) (hz : i.size = v.cells.size) (h : (storeCells ⟨b, off, none⟩ v.cells.toList 0).run P w = .ok () w') : (Instr.storeAt ty (.pointer (some ⟨b, off, none⟩)) v).run P w = .ok () w' := by
 unfold Instr.storeAt Instr.sureAddr storeVar
 simp only [Sem.run_bind, Sem.run_pure, Result.andThen_ok, run_sizeOf hi]
 rw [if_neg (by omega)]
 exact h
theorem node_one {va : Path → Value} {p : Path} {c : C} (hno : NodeOk w S va p c) (h1c : c.one = true) : (va p).oneCell' = true ∧ (va p).cells = #[va p] := by
 cases c with
 | p v =>
  have : va p = v := hno
  rw [this]
  exact one_RO (S := S) (w := w) (RO.p v) h1c
 | hole => cases h1c
 | sl own t k rows =>
  cases own with
  | false => exact one_RO (show RO w S _ _ from hno) rfl
  | true =>
   obtain ⟨-, -, hh | ⟨b2, o2, cap2, cur2, hh, -⟩⟩ := hno
   ·rw [hh.2]; exact ⟨rfl, rfl⟩
   ·rw [hh]; exact ⟨rfl, rfl⟩
theorem store_sound {ty ty2 : TypeId} {xa xv : Operand} (ho : o.op = .store ty xa xv) : Sound P nn o (storeQ P o.dst ty xa xv) := by
 intro ct t e K w0 a w Qx _ hn hq ⟨val, S, hs⟩
 unfold storeQ at hq
 split at hq
 ·rename_i ti hd hti
  obtain ⟨i, u, z, hi, hu, hz, hsz, hby, hzz, hzs, hz1, hag, hel, hfi, hone, hpos⟩ := tabOf_spec hti
  obtain ⟨av, h1, h2, -⟩ := opd_sv hq hs
  obtain ⟨av2, h3, h4, -⟩ := opd_sv h1 hs
  have hfin : ∀ w' (e' : Env) val', K e' → (Instr.storeAt ty (a.eval xa) (a.eval xv)).run P w = .ok () w' → StV w0 e' a w' val' S → o.wp P a w (fun a' w' => ∃ e', K e' ∧ St w0 e' a' w') Qx := fun w' e' val' hK hr hst => by
   refine wp_skipv (w' := w') ?_ ⟨e', hK, val', S, by rw [hd]; exact hst⟩
   unfold execOp
   simp only [ho, Sem.run_bind, hr, Result.andThen_ok]
   rfl
  split at h3
  ·rename_i r g p k
   have hv := h2 rfl 0
   split at h3
   ·rename_i ys hys
    obtain ⟨hf, hros, hone1, -⟩ := cellsOf_spec hys fun hp => h4 hp 0
    split at h3
    ·rename_i hlen
     obtain ⟨hds, g1, g2, g3⟩ := cellsQ_run _ h3
     obtain ⟨pp, j, q, b, o2, cn, rfl, g5, g6, g7, g8⟩ := cells_spec hs hv (by omega) g2
     have hK := g3.2
     rw [upds_puts] at hK
     obtain ⟨w', val', cn', k1, k2, -⟩ := puts_run (P := P) (a.eval xv).cells.toList ys 0 e w val cn (by have := hros.1; simp; omega) hs g6 (fun m _ hm => by
      have hml : m < hds.length := by have := hros.1; simp at hm; omega
      obtain ⟨c, hc, -⟩ := g8 m hds[m] (List.getElem?_eq_getElem hml)
      exact ⟨c, hc⟩) g7 hf (fun m y hy => by
      obtain ⟨u2, hu1, hu2⟩ := hros.2 m y hy
      exact ⟨u2, by simpa using hu1, hu2⟩) hone1
     refine hfin w' _ val' hK ?_ k2
     rw [g5]
     exact run_storeAt hi (by rw [hsz, ← hlen]; exact hros.1.symm) k1
    ·exact h3.elim
   ·split at h3
    ·rename_i s g2 p2 ag n hnone
     split at h3
     ·rename_i hh
      obtain ⟨rfl, rfl, hsr, hag1⟩ := hh
      obtain ⟨hds, g1, g3, g4⟩ := cellsQ_run _ h3
      obtain ⟨cs, g5, g6, g7⟩ := subsQ_run _ g4
      split at g7
      ·rename_i hall
       obtain ⟨pp, j, q, b, o2, cn, rfl, k1, k2, k3, k4⟩ := cells_spec hs hv (by omega) g3
       obtain ⟨hp2, cn2, k5, k6, k7⟩ := subs_spec (by omega) g6
       obtain ⟨-, hv2⟩ := h4 rfl 0
       have hv2 := hv2 fun i hi => k6 i (by omega)
       have hK := g7.2
       rw [upds_append, upds_puts, upds_grafts] at hK
       have hvs : ∃ vs : Array Value, (a.eval xv).cells = vs ∧ vs.size = ti.size ∧ ∀ i, i < ti.size → vs[i]? = some (val (s, 0) (cellP p2 i)) := by
        cases hagv : ti.agg with
        | false =>
         rw [hagv] at hv2
         obtain ⟨hn1, hv3⟩ := hv2
         have hone2 : (a.eval xv).oneCell' = true ∧ (a.eval xv).cells = #[a.eval xv] := by
          have hc00 : 0 < cs.length := by omega
          have hc0 := k7 0 cs[0] (List.getElem?_eq_getElem hc00)
          have hno := hs.mem.node _ _ _ _ k5 hc0
          rw [cellP_zero] at hno
          rw [hv3]
          exact node_one hno (List.all_eq_true.1 hall _ (List.getElem_mem _))
         refine ⟨#[a.eval xv], hone2.2, by simp; omega, fun i hi => ?_⟩
         have : i = 0 := by omega
         subst this
         rw [cellP_zero, ← hv3]; rfl
        | true =>
         rw [hagv] at hv2
         obtain ⟨vs, hv3, hv4, hv5⟩ := hv2
         exact ⟨vs, by rw [hv3]; rfl, hv4, hv5⟩
       obtain ⟨vs, hvs1, hvs2, hvs3⟩ := hvs
       have hone3 : ∀ v ∈ vs.toList, v.oneCell' = true := fun v hvm => by
        obtain ⟨i, hi, rfl⟩ := List.getElem_of_mem hvm
        have hi' : i < ti.size := by rw [← hvs2]; simpa using hi
        have hvi := hvs3 i hi'
        have he : vs[i]? = some vs.toList[i] := by rw [← Array.getElem?_toList, List.getElem?_eq_getElem hi]
        rw [he] at hvi
        have hvv := Option.some.inj hvi
        have hci : i < cs.length := by omega
        have hc0 := k7 i cs[i] (List.getElem?_eq_getElem hci)
        have hno := hs.mem.node _ _ _ _ k5 hc0
        rw [hvv]
        exact (node_one hno (List.all_eq_true.1 hall _ (List.getElem_mem _))).1
       obtain ⟨w', val', cn', m1, m2, m3, m4, m5, m6, m7, m8⟩ := puts_run (P := P) vs.toList (List.replicate ti.size .hole) 0 e w val cn (by simp [hvs2]) hs k2 (fun m _ hm => by
        have hml : m < hds.length := by simp [hvs2] at hm; omega
        obtain ⟨c, hc, -⟩ := k4 m hds[m] (List.getElem?_eq_getElem hml)
        exact ⟨c, hc⟩) k3 (fun y hy => by rw [List.eq_of_mem_replicate hy]; rfl) (fun m y hy => by
        have hm : m < ti.size := by have := (List.getElem?_eq_some_iff.1 hy).1; simpa using this
        rw [List.eq_of_mem_replicate (List.mem_of_getElem? hy)]
        exact ⟨vs.toList[m]'(by simp [hvs2, hm]), by rw [List.getElem?_eq_getElem], .hole _⟩) hone3
       have hsk : (s, 0) ≠ (r, 0) := fun hh => hsr (by simpa using hh)
       obtain ⟨m9, m10⟩ := m8 (s, 0) hsk
       obtain ⟨val2, m11⟩ := grafts_run hsr hp2 (p2 := pp ++ [(j, q)]) (by simp) cs 0 _ val' cn2 cn' m2 (by rw [m10]; exact k5) m3 fun m c hm => by
        have hml : m < ti.size := by have := (List.getElem?_eq_some_iff.1 hm).1; omega
        rw [Nat.zero_add, cellP_snoc]
        refine ⟨k7 m c hm, ?_, ?_⟩
        ·have := m5 m .hole (by simp [hml])
         rwa [Nat.zero_add] at this
        ·have := m4 m (val (s, 0) (cellP p2 m)) (by rw [Array.getElem?_toList]; exact hvs3 m hml)
         rw [Nat.zero_add] at this
         rw [this, m9]
       refine hfin w' _ val2 hK ?_ m11
       rw [k1]
       exact run_storeAt hi (by rw [hsz, hvs1, hvs2]) (by rw [hvs1]; exact m1)
      ·exact g7.elim
     ·exact h3.elim
    ·exact h3.elim
  ·exact h3.elim
 ·exact hq.elim
end
end
end Go.Proofs.YtdiiggpohcjppaaGreat
