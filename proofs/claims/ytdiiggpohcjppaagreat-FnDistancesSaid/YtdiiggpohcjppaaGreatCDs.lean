/- Operations reckoned by nested matches (a simp then never goes under a continuation). No program in sight. -/
import Derived.Test.YtdiiggpohcjppaaGreatCJn12
set_option linter.unusedSimpArgs false
set_option linter.unusedVariables false
namespace Go.Proofs.YtdiiggpohcjppaaGreat
open Go Go.RowKit
def opE (e : Env) (x : Operand) : Option AV := match x with
 | .tmp s => some (slotView s (e.gen s) (e.s s))
 | .const v => some (constAV v)
 | .func f => some (.c (.p (.func (.func f) #[] #[])))
 | .global _ => none
def setE (nn : Nat) (d : Option Nat) (us : List Upd) (av : AV) (cs : Nat → Option Con) (e : Env) : Option Env := match d with
 | some d => if d < nn then some (upds (us ++ [.set d av cs]) e) else none
 | none => none
def outE (nn : Nat) (d : Option Nat) (av : AV) (e : Env) : Option Env := if av.plain = true then setE nn d [] av noCon e else none
def moveE (nn : Nat) (d : Option Nat) (x : Operand) (e : Env) : Option Env := match opE e x with
 | none => none
 | some av => outE nn d av e
def tconsE (e : Env) (s : Nat) : Nat → List (Option Con)
 | 0 => []
 | n + 1 => tconsE e s n ++ [e.con (s, n + 1)]
def mvAE (nn : Nat) (d : Option Nat) (s : Nat) (e : Env) : AV → Option Env
 | .tup ts => if d ≠ some s then setE nn d (dropsU s ts.length) (.tup ts) (listCon (tconsE e s ts.length)) e else none
 | av => outE nn d av e
def mvE (nn : Nat) (d : Option Nat) (x : Operand) (e : Env) : Option Env := match x with
 | .tmp s => mvAE nn d s e (slotView s (e.gen s) (e.s s))
 | x => moveE nn d x e
def boolE : AV → Option Bool
 | .c (.p (.bool b)) => some b
 | _ => none
def intE : AV → Option Int
 | .c (.p (.int _ n)) => some n
 | _ => none
def plainE : AV → Option Value
 | .c (.p v) => some v
 | _ => none
def bopE (e : Env) (x : Operand) : Option Bool := match opE e x with
 | none => none
 | some av => boolE av
def iopE (e : Env) (x : Operand) : Option Int := match opE e x with
 | none => none
 | some av => intE av
def popE (e : Env) (x : Operand) : Option Value := match opE e x with
 | none => none
 | some av => plainE av
def pickE (nn : Nat) (d : Option Nat) (c x y : Operand) (e : Env) : Option Env := match bopE e c with
 | none => none
 | some b => moveE nn d (if b = true then x else y) e
def subsE (e : Env) (r g : Nat) (p : Path) : Nat → Option (List C)
 | 0 => some []
 | n + 1 => match subsE e r g p n with
  | none => none
  | some cs => match e.sub r g (cellP p n) with
   | none => none
   | some c => some (cs ++ [c])
def cellsE (e : Env) (r g : Nat) (p : Path) (k : Nat) : Nat → Option (List Hd)
 | 0 => some []
 | n + 1 => match cellsE e r g p k n with
  | none => none
  | some hs => match e.cell r g (cellP p n) k with
   | none => none
   | some h => some (hs ++ [h])
def takeE (nn : Nat) (d : Option Nat) (e : Env) : AV → Option Env
 | .ref r g p ag n => if d ≠ some r ∧ 0 < n ∧ (ag = false → n = 1) then (match subsE e r g p n with
  | none => none
  | some cs => setE nn d (holesU r p n) (.own ag n) (oneCon ⟨none, cs⟩) e) else none
 | av => outE nn d av e
def assignE (nn : Nat) (d : Option Nat) (x : Operand) (e : Env) : Option Env := match opE e x with
 | none => none
 | some av => takeE nn d e av
def allocE (P : Program) (nn : Nat) (d : Option Nat) (t : TypeId) (e : Env) : Option Env := match tabOf P t with
 | none => none
 | some ti => setE nn d [] .box (oneCon ⟨some t, ti.zero.map C.p⟩) e
def boxE (P : Program) (nn : Nat) (d : Option Nat) (t : TypeId) (x : Operand) (e : Env) : Option Env := match tabOf P t with
 | none => none
 | some ti => match opE e x with
  | none => none
  | some av => match cellsOf ti.agg av with
   | some xs => setE nn d [] .box (oneCon ⟨some t, xs⟩) e
   | none => match d with
    | none => none
    | some d => match av with
     | .ref s g p ag n => if d < nn ∧ s ≠ d ∧ ag = ti.agg ∧ n = ti.size ∧ (ag = false → n = 1) then (match subsE e s g p n with
      | none => none
      | some cs => if cs.all C.one = true then some (upds (.set d .box (oneCon ⟨some t, List.replicate n .hole⟩) :: graftU s p d [(0, 0)] 0 cs) e) else none) else none
     | _ => none
def ldE (nn : Nat) (d : Option Nat) (e : Env) (ti : TI) : AV → Option Env
 | .ptr r g p k => if ti.agg = true then (match cellsE e r g p k ti.size with
  | none => none
  | some hs => match roAll hs with
   | some xs => outE nn d (.agg xs) e
   | none => outE nn d (.ref r g p true ti.size) e)
  else match e.cell r g p k with
   | some (.p v) => outE nn d (.c (.p v)) e
   | some (.ro c) => outE nn d (.c c) e
   | some (.own _ _ _) => outE nn d (.ref r g p false 1) e
   | _ => none
 | .rp xs => if ti.agg = true then (if ti.size ≤ xs.length then outE nn d (.agg (xs.take ti.size)) e else none)
  else match xs with
   | x :: _ => outE nn d (.c x) e
   | [] => none
 | _ => none
def loadE (P : Program) (nn : Nat) (d : Option Nat) (t : TypeId) (x : Operand) (e : Env) : Option Env := match tabOf P t with
 | none => none
 | some ti => match opE e x with
  | none => none
  | some av => ldE nn d e ti av
def stE (e : Env) (ti : TI) (av2 : AV) : AV → Option Env
 | .ptr r g p k => match cellsOf ti.agg av2 with
  | some ys => if ys.length = ti.size then (match cellsE e r g p k ti.size with
   | none => none
   | some _ => some (upds (putsU r p 0 ys) e)) else none
  | none => match av2 with
   | .ref s g2 p2 ag n => if ag = ti.agg ∧ n = ti.size ∧ s ≠ r ∧ (ag = false → n = 1) then (match cellsE e r g p k ti.size with
    | none => none
    | some _ => match subsE e s g2 p2 n with
     | none => none
     | some cs => if cs.all C.one = true then some (upds (putsU r p 0 (List.replicate n .hole) ++ graftU s p2 r p 0 cs) e) else none) else none
   | _ => none
 | _ => none
def storeE (P : Program) (d : Option Nat) (ty : TypeId) (xa xv : Operand) (e : Env) : Option Env := match d with
 | some _ => none
 | none => match tabOf P ty with
  | none => none
  | some ti => match opE e xa with
   | none => none
   | some av => match opE e xv with
    | none => none
    | some av2 => stE e ti av2 av
def binE (P : Program) (nn : Nat) (d : Option Nat) (op : BinOp) (ty : TypeId) (x y : Operand) (e : Env) : Option Env := match opE e x with
 | none => none
 | some u => match opE e y with
  | none => none
  | some v => match binAV P op ty u v with
   | none => none
   | some z => outE nn d (.c (.p z)) e
def unE (nn : Nat) (d : Option Nat) (op : UnOp) (x : Operand) (e : Env) : Option Env := match popE e x with
 | none => none
 | some u => match unV op u with
  | none => none
  | some z => outE nn d (.c (.p z)) e
def faE (nn : Nat) (d : Option Nat) (e : Env) (off : Nat) : AV → Option Env
 | .ptr r g p k => match e.cell r g (cellP p off) k with
  | none => none
  | some _ => outE nn d (.ptr r g (cellP p off) k) e
 | .rp xs => outE nn d (.rp (xs.drop off)) e
 | _ => none
def fieldAddrE (P : Program) (nn : Nat) (d : Option Nat) (s : TypeId) (x : Operand) (f : Nat) (e : Env) : Option Env := match tabOf P s with
 | none => none
 | some ti => match ti.fields[f]? with
  | none => none
  | some (off, fty) => match tabOf P fty with
   | none => none
   | some _ => match opE e x with
    | none => none
    | some av => faE nn d e off av
def iaE (nn : Nat) (d : Option Nat) (e : Env) (size : Nat) (n : Int) : AV → Option Env
 | .ref r g p ag m => if ag = false ∧ m = 1 then (match e.hd r g p with
  | some (.own _ k len) => if 0 ≤ n ∧ n < (len : Int) ∧ k = size then outE nn d (.ptr r g (p ++ [(n.toNat, 0)]) k) e else none
  | _ => none) else none
 | .c (.sl _ _ k rows) => if 0 ≤ n ∧ n < (rows.length : Int) ∧ k = size then outE nn d (.rp (rows.getD n.toNat [])) e else none
 | _ => none
def indexAddrE (P : Program) (nn : Nat) (d : Option Nat) (s : TypeId) (x ix : Operand) (e : Env) : Option Env := match tabOf P s with
 | none => none
 | some ti => match ti.elem with
  | none => none
  | some el => match tabOf P el with
   | none => none
   | some te => match opE e x with
    | none => none
    | some av => match iopE e ix with
     | none => none
     | some n => iaE nn d e te.size n av
def makeE (P : Program) (nn : Nat) (d : Option Nat) (t : TypeId) (l c : Operand) (e : Env) : Option Env := match tabOf P t with
 | none => none
 | some ti => match ti.elem with
  | none => none
  | some el => match tabOf P el with
   | none => none
   | some te => match iopE e l with
    | none => none
    | some n => match iopE e c with
     | none => none
     | some m => if 0 ≤ n ∧ n ≤ m ∧ m ≤ 4194304 ∧ te.bytes ≤ 4194304 then setE nn d [] (.own false 1) (oneCon ⟨none, [.sl true el te.size (zeroRows te.zero n.toNat)]⟩) e else none
def exE (nn : Nat) (d : Option Nat) (e : Env) (s i : Nat) : Option TV → Option Env
 | some (.c x) => outE nn d (.c x) e
 | some (.agg xs) => outE nn d (.agg xs) e
 | some (.own ag n) => if d ≠ some s then (match e.con (s, i + 1) with
  | some cn => setE nn d [.drop s i] (.own ag n) (oneCon cn) e
  | none => none) else none
 | none => none
def extractE (nn : Nat) (d : Option Nat) (x : Operand) (i : Nat) (e : Env) : Option Env := match x with
 | .tmp s => match slotView s (e.gen s) (e.s s) with
  | .tup ts => exE nn d e s i ts[i]?
  | _ => none
 | _ => none
def lnE (P : Program) (nn : Nat) (d : Option Nat) (s : TypeId) (e : Env) : AV → Option Env
 | .c (.p (.string b)) => if isStr P s = true then outE nn d (.c (.p (.int .i64 b.size))) e else none
 | av => match tabOf P s with
  | none => none
  | some ti => if ti.elem.isSome = true then (match av with
   | .ref r g p ag m => if ag = false ∧ m = 1 then (match e.hd r g p with
    | some (.own _ _ len) => outE nn d (.c (.p (.int .i64 len))) e
    | _ => none) else none
   | .c (.sl _ _ _ rows) => outE nn d (.c (.p (.int .i64 rows.length))) e
   | .c (.p (.slice _ n _)) => outE nn d (.c (.p (.int .i64 n))) e
   | _ => none) else none
def lenE (P : Program) (nn : Nat) (d : Option Nat) (s : TypeId) (x : Operand) (e : Env) : Option Env := match opE e x with
 | none => none
 | some av => lnE P nn d s e av
def partsE (e : Env) : List (Nat × Operand) → Option (List (Nat × List C))
 | [] => some []
 | (i, x) :: ps => match opE e x with
  | none => none
  | some av => match partOf av with
   | none => none
   | some ys => match partsE e ps with
    | none => none
    | some rs => some ((i, ys) :: rs)
def buildE (P : Program) (nn : Nat) (d : Option Nat) (t : TypeId) (ps : List (Nat × Operand)) (e : Env) : Option Env := match tabOf P t with
 | none => none
 | some ti => match ti.fields with
  | [] => none
  | f :: fs => match placesOf P (f :: fs) with
   | none => none
   | some pl => match partsE e ps with
    | none => none
    | some rs => match fillC (fun i => pl[i]?) (ti.zero.map C.p) rs with
     | some ys => outE nn d (.agg ys) e
     | none => none
inductive SrcR where
 | flat (rows2 : List (List C))
 | row (s : Nat) (p : Path) (row : List C)
def srcE (e : Env) (k : Nat) (av2 : AV) : Option SrcR := match av2 with
 | .c (.p (.slice none 0 0)) => some (.flat [])
 | .c (.sl _ _ k2 rows2) => if k2 = k ∧ rowsOk rows2 = true then some (.flat rows2) else none
 | .ref s g p ag m => if ag = false ∧ m = 1 then (match e.sub s g p with
  | some (.sl true _ k2 rows2) => if k2 = k then (if rowsOk rows2 = true then some (.flat rows2) else match rows2 with
   | [row] => if row.all C.one = true then some (.row s p row) else none
   | _ => none) else none
  | _ => none) else none
 | _ => none
def apNilE (nn dd el : Nat) (te : TI) (e : Env) : Option SrcR → Option Env
 | some (.flat rows2) => if rows2.length ≤ 1000000000 ∧ te.bytes ≤ 100000 then setE nn (some dd) [.set dd (.own false 1) (oneCon ⟨none, [.sl true el te.size []]⟩)] (.own false 1) (oneCon ⟨none, [.sl true el te.size rows2]⟩) e else none
 | some (.row s2 p2 row) => if dd ≠ s2 ∧ te.bytes ≤ 100000 ∧ dd < nn then some (upds ([.set dd (.own false 1) (oneCon ⟨none, [.sl true el te.size []]⟩), .set dd (.own false 1) (oneCon ⟨none, [.sl true el te.size [List.replicate te.size .hole]]⟩)] ++ graftU s2 (p2 ++ [(0, 0)]) dd [(0, 0), (0, 0)] 0 row) e) else none
 | none => none
def apOwnE (nn dd el r : Nat) (p : Path) (te : TI) (rows : List (List C)) (e : Env) : Option SrcR → Option Env
 | some (.flat rows2) => if rows.length + rows2.length ≤ 1000000000 ∧ te.bytes ≤ 100000 then setE nn (some dd) (holesU r p 1 ++ [.set dd (.own false 1) (oneCon ⟨none, [.sl true el te.size rows]⟩)]) (.own false 1) (oneCon ⟨none, [.sl true el te.size (rows ++ rows2)]⟩) e else none
 | some (.row s2 p2 row) => if dd ≠ s2 ∧ r ≠ s2 ∧ rows.length + 1 ≤ 1000000000 ∧ te.bytes ≤ 100000 ∧ dd < nn then some (upds (holesU r p 1 ++ [.set dd (.own false 1) (oneCon ⟨none, [.sl true el te.size rows]⟩), .set dd (.own false 1) (oneCon ⟨none, [.sl true el te.size (rows ++ [List.replicate te.size .hole])]⟩)] ++ graftU s2 (p2 ++ [(0, 0)]) dd [(0, 0), (rows.length, 0)] 0 row) e) else none
 | none => none
def apE (nn dd el : Nat) (te : TI) (e : Env) (av av2 : AV) : Option Env := match av with
 | .c (.p (.slice none 0 0)) => apNilE nn dd el te e (srcE e te.size av2)
 | .ref r g p ag m => if ag = false ∧ m = 1 ∧ dd ≠ r then (match e.sub r g p with
  | some (.sl true t k rows) => if t = el ∧ k = te.size then apOwnE nn dd el r p te rows e (srcE e te.size av2) else none
  | _ => none) else none
 | _ => none
def appendE (P : Program) (nn : Nat) (d : Option Nat) (s : TypeId) (x y : Operand) (e : Env) : Option Env := match tabOf P s with
 | none => none
 | some ti => match ti.elem with
  | none => none
  | some el => match tabOf P el with
   | none => none
   | some te => match d with
    | none => none
    | some dd => match opE e x with
     | none => none
     | some av => match opE e y with
      | none => none
      | some av2 => apE nn dd el te e av av2
def buildSliceE (P : Program) (nn : Nat) (d : Option Nat) (ty : TypeId) (n : Nat) (ps : List (Nat × Operand)) (e : Env) : Option Env := match tabOf P ty with
 | none => none
 | some ti => match ti.elem with
  | none => none
  | some el => match tabOf P el with
   | none => none
   | some te => if n * te.size ≤ 16777216 then (match partsE e ps with
    | none => none
    | some rs => match fillC (fun i => some (i * te.size, te.size)) (zerosC te.zero n) rs with
     | some ys => if ys.all C.flat = true then setE nn d [] (.own false 1) (oneCon ⟨none, [.sl true el te.size (chunk te.size ys n)]⟩) e else none
     | none => none) else none
def moveSliceE (nn : Nat) (d : Option Nat) (el : TypeId) (te : TI) (e : Env) (av : AV) : Option Env := match d, av with
 | some dd, .ref s g p ag m => if ag = te.agg ∧ m = te.size ∧ dd ≠ s ∧ dd < nn ∧ (ag = false → m = 1) then (match subsE e s g p m with
  | none => none
  | some cs => if cs.all C.one = true then (if cs.all C.flat = true then setE nn (some dd) [] (.own false 1) (oneCon ⟨none, [.sl true el te.size [cs]]⟩) e
   else some (upds (.set dd (.own false 1) (oneCon ⟨none, [.sl true el te.size [List.replicate te.size .hole]]⟩) :: graftU s p dd [(0, 0), (0, 0)] 0 cs) e)) else none) else none
 | _, _ => none
def bs1E (P : Program) (nn : Nat) (d : Option Nat) (ty : TypeId) (x : Operand) (e : Env) : Option Env := match tabOf P ty with
 | none => none
 | some ti => match ti.elem with
  | none => none
  | some el => match tabOf P el with
   | none => none
   | some te => match opE e x with
    | none => none
    | some av => match partOf av with
     | some _ => buildSliceE P nn d ty 1 [(0, x)] e
     | none => if te.size ≤ 16777216 then moveSliceE nn d el te e av else none
def bsE (P : Program) (nn : Nat) (d : Option Nat) (ty : TypeId) (n : Nat) (ps : List (Nat × Operand)) (e : Env) : Option Env := match n, ps with
 | 1, [(0, x)] => bs1E P nn d ty x e
 | n, ps => buildSliceE P nn d ty n ps e
def bndE (e : Env) (x : Option Operand) : Option (Option Int) := match x with
 | none => some none
 | some x => match iopE e x with
  | none => none
  | some n => some (some n)
def slAvE (nn : Nat) (d : Option Nat) (el : TypeId) (te : TI) (l h : Option Int) (e : Env) (av : AV) : Option Env := match av with
 | .c (.sl _ t k rows) => if k = te.size ∧ bndOk l h rows.length then outE nn d (.c (.sl false t k (cutB rows l h))) e else none
 | .ref r g p ag m => match d with
  | none => none
  | some dd => if ag = false ∧ m = 1 ∧ dd ≠ r then (match e.sub r g p with
   | some (.sl true t k rows) => if t = el ∧ k = te.size ∧ bndOk l h rows.length then setE nn (some dd) (holesU r p 1 ++ [.set dd (.own false 1) (oneCon ⟨none, [.sl true el te.size rows]⟩)]) (.own false 1) (oneCon ⟨none, [.sl true el te.size (cutB rows l h)]⟩) e else none
   | _ => none) else none
 | _ => none
def sliceE (P : Program) (nn : Nat) (d : Option Nat) (s : TypeId) (x : Operand) (lo hi : Option Operand) (e : Env) : Option Env := match tabOf P s with
 | none => none
 | some ti => match ti.elem with
  | none => none
  | some el => match tabOf P el with
   | none => none
   | some te => match opE e x with
    | none => none
    | some av => match bndE e lo with
     | none => none
     | some l => match bndE e hi with
      | none => none
      | some h => slAvE nn d el te l h e av
def mmAvE (nn : Nat) (d : Option Nat) (mx : Bool) (e : Env) (av av2 : AV) : Option Env := match av, av2 with
 | .c (.p (.int .i64 n)), .c (.p (.int .i64 m)) => outE nn d (.c (.p (.int .i64 (if mx then max n m else min n m)))) e
 | _, _ => none
def mmE (nn : Nat) (d : Option Nat) (mx : Bool) (x y : Operand) (e : Env) : Option Env := match opE e x with
 | none => none
 | some av => match opE e y with
  | none => none
  | some av2 => mmAvE nn d mx e av av2
def wholesE (e : Env) : List (Nat × Nat) → Option (List (List C))
 | [] => some []
 | (r, g) :: rs => match e.whole r g with
  | none => none
  | some (_, ys) => match wholesE e rs with
   | none => none
   | some css => some (ys :: css)
def boxpE : Option AV → Option (Nat × Nat)
 | some av => isBoxP av
 | none => none
def capsE (e : Env) : List Operand → Option (List (Nat × Nat))
 | [] => some []
 | x :: xs => match boxpE (opE e x) with
  | none => none
  | some rg => match capsE e xs with
   | none => none
   | some l => some (rg :: l)
def mkFnE (nn : Nat) (d : Option Nat) (g : FuncId) (caps : List Operand) (e : Env) : Option Env := match capsE e caps with
 | none => none
 | some rs => outE nn d (.clo g rs) e
def opX (P : Program) (nn : Nat) (d : Option Nat) (op : Op) (e : Env) : Option Env := match op with
 | .move x => mvE nn d x e
 | .assign x => assignE nn d x e
 | .pick c x y => pickE nn d c x y e
 | .alloc t => allocE P nn d t e
 | .box t x => boxE P nn d t x e
 | .load t x => loadE P nn d t x e
 | .store t x v => storeE P d t x v e
 | .binOp op ty x y _ => binE P nn d op ty x y e
 | .unOp op _ x => unE nn d op x e
 | .fieldAddr s x f => fieldAddrE P nn d s x f e
 | .indexAddr s x i => indexAddrE P nn d s x i e
 | .makeSlice t l c => makeE P nn d t l c e
 | .extract x i => extractE nn d x i e
 | .build t ps => buildE P nn d t ps.toList e
 | .call ⟨.builtin .len, ⟨[x]⟩, ⟨[s]⟩⟩ => lenE P nn d s x e
 | .makeFunc (.func g) ⟨[]⟩ caps => mkFnE nn d g caps.toList e
 | .buildSlice t n ps => bsE P nn d t n ps.toList e
 | .call ⟨.builtin .append, ⟨[x, y]⟩, ⟨[s, s']⟩⟩ => if s = s' then appendE P nn d s x y e else none
 | .slice s x lo hi none => sliceE P nn d s x lo hi e
 | .call ⟨.builtin .min, ⟨[x, y]⟩, _⟩ => mmE nn d false x y e
 | .call ⟨.builtin .max, ⟨[x, y]⟩, _⟩ => mmE nn d true x y e
 | _ => none
def gvE : AV → Option (Option Bool)
 | .c (.p (.bool b)) => some (some b)
 | .c (.p (.tuple _)) => some none
 | _ => none
def gopE (e : Env) (s : Nat) : Option (Option Bool) := gvE (slotView s (e.gen s) (e.s s))
def skipE (nn : Nat) (d : Option Nat) (e : Env) : Option Env := match d with
 | some d => setE nn (some d) [] (.c (.p (.tuple #[]))) noCon e
 | none => some e
def gX (P : Program) (nn : Nat) (ds : List (Option Nat)) (o : Oper) (e : Env) : Option Env := match o.guard with
 | none => opX P nn o.dst o.op e
 | some (j, want) => match ds[j]? with
  | some (some dj) => match gopE e dj with
   | none => none
   | some b => if b = some want then opX P nn o.dst o.op e else skipE nn o.dst e
  | _ => none
section
variable {P : Program} {nn : Nat} {ct : Cts} {e E1 : Env} {d : Option Nat} {ds : List (Option Nat)} {o : Oper} {K : Env → Prop}
theorem x_opd {x : Operand} {k : AV → Q} {av : AV} (h : opE e x = some av) : qrun ct none (opd x k) e K = qrun ct none (k av) e K := by
 cases x with
 | tmp s => simp only [opE, Option.some.injEq] at h; subst h; exact q_slot
 | const v => simp only [opE, Option.some.injEq] at h; subst h; rfl
 | func f => simp only [opE, Option.some.injEq] at h; subst h; rfl
 | global g => cases h
theorem x_set {us : List Upd} {av : AV} {cs : Nat → Option Con} (h : setE nn d us av cs e = some E1) : qrun ct none (setQ nn d us av cs) e (fun x => x = E1) := by
 unfold setE at h; unfold setQ
 cases d with
 | none => cases h
 | some d =>
  dsimp only at h ⊢
  split at h
  ·rename_i hd; cases h; rw [if_pos hd, q_ups]
  ·cases h
theorem x_out {av : AV} (h : outE nn d av e = some E1) : qrun ct none (outQ nn d av) e (fun x => x = E1) := by
 unfold outE at h; unfold outQ
 split at h
 ·rename_i hp; rw [if_pos hp]; exact x_set h
 ·cases h
theorem x_move {x : Operand} (h : moveE nn d x e = some E1) : qrun ct none (moveQ nn d x) e (fun x => x = E1) := by
 unfold moveE at h; unfold moveQ
 split at h
 ·cases h
 ·rename_i av hx; rw [x_opd hx]; exact x_out h
theorem x_tcons {s : Nat} : ∀ {n : Nat} {k : List (Option Con) → Q}, qrun ct none (tconsQ s n k) e K = qrun ct none (k (tconsE e s n)) e K
 | 0, k => rfl
 | n + 1, k => by unfold tconsQ tconsE; rw [x_tcons, q_tcon]
theorem x_mv {x : Operand} (h : mvE nn d x e = some E1) : qrun ct none (mvQ nn d x) e (fun x => x = E1) := by
 unfold mvE at h; unfold mvQ
 split at h
 ·dsimp only
  rw [q_slot]
  unfold mvAE at h
  split at h
  ·rename_i ts hts; rw [hts]; dsimp only
   split at h
   ·rename_i hd; rw [if_pos hd, x_tcons]; exact x_set h
   ·cases h
  ·rename_i hne
   split
   ·rename_i ts hts; exact (hne _ hts).elim
   ·exact x_out h
 ·rename_i x hne
  split
  ·exact (hne _ rfl).elim
  ·exact x_move h
theorem x_bool {av : AV} {b : Bool} {k : Bool → Q} (h : boolE av = some b) : qrun ct none (boolQ av k) e K = qrun ct none (k b) e K := by
 unfold boolE at h; split at h <;> cases h; rfl
theorem x_int {av : AV} {n : Int} {k : Int → Q} (h : intE av = some n) : qrun ct none (intQ av k) e K = qrun ct none (k n) e K := by
 unfold intE at h; split at h <;> cases h; rfl
theorem x_plain {av : AV} {v : Value} {k : Value → Q} (h : plainE av = some v) : qrun ct none (plainQ av k) e K = qrun ct none (k v) e K := by
 unfold plainE at h; split at h <;> cases h; rfl
theorem x_bop {x : Operand} {b : Bool} {k : Bool → Q} (h : bopE e x = some b) : qrun ct none (opd x fun av => boolQ av k) e K = qrun ct none (k b) e K := by
 unfold bopE at h; split at h
 ·cases h
 ·rename_i av hx; rw [x_opd hx]; exact x_bool h
theorem x_iop {x : Operand} {b : Int} {k : Int → Q} (h : iopE e x = some b) : qrun ct none (opd x fun av => intQ av k) e K = qrun ct none (k b) e K := by
 unfold iopE at h; split at h
 ·cases h
 ·rename_i av hx; rw [x_opd hx]; exact x_int h
theorem x_pop {x : Operand} {b : Value} {k : Value → Q} (h : popE e x = some b) : qrun ct none (opd x fun av => plainQ av k) e K = qrun ct none (k b) e K := by
 unfold popE at h; split at h
 ·cases h
 ·rename_i av hx; rw [x_opd hx]; exact x_plain h
theorem x_pick {c x y : Operand} (h : pickE nn d c x y e = some E1) : qrun ct none (pickQ nn d c x y) e (fun x => x = E1) := by
 unfold pickE at h; unfold pickQ
 split at h
 ·cases h
 ·rename_i b hb; rw [x_bop hb]; exact x_move h
theorem x_subs {r g : Nat} {p : Path} : ∀ {n : Nat} {cs : List C} {k : List C → Q}, subsE e r g p n = some cs → qrun ct none (subsQ r g p n k) e K = qrun ct none (k cs) e K
 | 0, cs, k, h => by cases h; rfl
 | n + 1, cs, k, h => by
  unfold subsE at h; unfold subsQ
  split at h
  ·cases h
  ·rename_i cs0 h0
   split at h
   ·cases h
   ·rename_i c hc; cases h; rw [x_subs h0, q_sub, hc]
theorem x_cells {r g : Nat} {p : Path} {kk : Nat} : ∀ {n : Nat} {cs : List Hd} {k : List Hd → Q}, cellsE e r g p kk n = some cs → qrun ct none (cellsQ r g p kk n k) e K = qrun ct none (k cs) e K
 | 0, cs, k, h => by cases h; rfl
 | n + 1, cs, k, h => by
  unfold cellsE at h; unfold cellsQ
  split at h
  ·cases h
  ·rename_i cs0 h0
   split at h
   ·cases h
   ·rename_i c hc; cases h; rw [x_cells h0, q_cell, hc]
theorem x_assign {x : Operand} (h : assignE nn d x e = some E1) : qrun ct none (assignQ nn d x) e (fun x => x = E1) := by
 unfold assignE at h; unfold assignQ
 split at h
 ·cases h
 ·rename_i av hx; rw [x_opd hx]
  unfold takeE at h
  split at h
  ·dsimp only
   split at h
   ·rename_i hc; rw [if_pos hc]
    split at h
    ·cases h
    ·rename_i cs hs; rw [x_subs hs]; exact x_set h
   ·cases h
  ·rename_i hne
   split
   ·exact (hne _ _ _ _ _ rfl).elim
   ·exact x_out h
theorem x_alloc {t : TypeId} (h : allocE P nn d t e = some E1) : qrun ct none (allocQ P nn d t) e (fun x => x = E1) := by
 unfold allocE at h; unfold allocQ
 split at h
 ·cases h
 ·rename_i ti ht; rw [ht]; exact x_set h
theorem x_box {t : TypeId} {x : Operand} (h : boxE P nn d t x e = some E1) : qrun ct none (boxOQ P nn d t x) e (fun x => x = E1) := by
 unfold boxE at h; unfold boxOQ
 split at h
 ·cases h
 ·rename_i ti ht; rw [ht]
  split at h
  ·cases h
  ·rename_i av hx; dsimp only; rw [x_opd hx]
   split at h
   ·rename_i xs hxs; rw [hxs]; exact x_set h
   ·rename_i hxs; rw [hxs]
    dsimp only
    split at h
    ·cases h
    ·split at h
     ·dsimp only
      split at h
      ·rename_i hl; rw [if_pos hl]
       split at h
       ·cases h
       ·rename_i cs hs; rw [x_subs hs]
        split at h
        ·rename_i ha; cases h; rw [if_pos ha, q_ups]
        ·cases h
      ·cases h
     ·cases h
theorem x_load {t : TypeId} {x : Operand} (h : loadE P nn d t x e = some E1) : qrun ct none (loadQ P nn d t x) e (fun x => x = E1) := by
 unfold loadE at h; unfold loadQ
 split at h
 ·cases h
 ·rename_i ti ht; rw [ht]
  split at h
  ·cases h
  ·rename_i av hx; dsimp only; rw [x_opd hx]
   unfold ldE at h
   split at h
   ·dsimp only
    split at h
    ·rename_i ha; rw [if_pos ha]
     split at h
     ·cases h
     ·rename_i hs hcs; rw [x_cells hcs]
      split at h
      ·rename_i xs hr; rw [hr]; exact x_out h
      ·rename_i hr; rw [hr]; exact x_out h
    ·rename_i ha; rw [if_neg ha, q_cell]
     split at h
     ·rename_i hc; rw [hc]; exact x_out h
     ·rename_i hc; rw [hc]; exact x_out h
     ·rename_i hc; rw [hc]; exact x_out h
     ·cases h
   ·dsimp only
    split at h
    ·rename_i ha; rw [if_pos ha]
     split at h
     ·rename_i hl; rw [if_pos hl]; exact x_out h
     ·cases h
    ·rename_i ha; rw [if_neg ha]
     split at h
     ·exact x_out h
     ·cases h
   ·cases h
theorem x_store {t : TypeId} {x v : Operand} (h : storeE P d t x v e = some E1) : qrun ct none (storeQ P d t x v) e (fun x => x = E1) := by
 unfold storeE at h; unfold storeQ
 split at h
 ·cases h
 ·split at h
  ·cases h
  ·rename_i ti ht; rw [ht]
   split at h
   ·cases h
   ·rename_i av hx
    split at h
    ·cases h
    ·rename_i av2 hv
     dsimp only
     rw [x_opd hx, x_opd hv]
     unfold stE at h
     split at h
     ·dsimp only
      split at h
      ·rename_i ys hys; rw [hys]
       dsimp only
       split at h
       ·rename_i hl; rw [if_pos hl]
        split at h
        ·cases h
        ·rename_i hcs; cases h; rw [x_cells hcs, q_ups]
       ·cases h
      ·rename_i hys; rw [hys]
       split at h
       ·dsimp only
        split at h
        ·rename_i hl; rw [if_pos hl]
         split at h
         ·cases h
         ·rename_i hcs; rw [x_cells hcs]
          split at h
          ·cases h
          ·rename_i cs hs; rw [x_subs hs]
           split at h
           ·rename_i ha; cases h; rw [if_pos ha, q_ups]
           ·cases h
        ·cases h
       ·cases h
     ·cases h
theorem x_bin {op : BinOp} {ty : TypeId} {x y : Operand} (h : binE P nn d op ty x y e = some E1) : qrun ct none (binQ P nn d op ty x y) e (fun x => x = E1) := by
 unfold binE at h; unfold binQ
 split at h
 ·cases h
 ·rename_i u hu; rw [x_opd hu]
  split at h
  ·cases h
  ·rename_i v hv; rw [x_opd hv]
   split at h
   ·cases h
   ·rename_i z hz; rw [hz]; exact x_out h
theorem x_un {op : UnOp} {x : Operand} (h : unE nn d op x e = some E1) : qrun ct none (unQ nn d op x) e (fun x => x = E1) := by
 unfold unE at h; unfold unQ
 split at h
 ·cases h
 ·rename_i u hu; rw [x_pop hu]
  split at h
  ·cases h
  ·rename_i z hz; rw [hz]; exact x_out h
theorem x_fieldAddr {s : TypeId} {x : Operand} {f : Nat} (h : fieldAddrE P nn d s x f e = some E1) : qrun ct none (fieldAddrQ P nn d s x f) e (fun x => x = E1) := by
 unfold fieldAddrE at h; unfold fieldAddrQ
 split at h
 ·cases h
 ·rename_i ti ht; rw [ht]
  dsimp only
  split at h
  ·cases h
  ·rename_i off fty hf; rw [hf]
   dsimp only
   split at h
   ·cases h
   ·rename_i tf htf; rw [htf]
    split at h
    ·cases h
    ·rename_i av hx; dsimp only; rw [x_opd hx]
     unfold faE at h
     split at h
     ·dsimp only; rw [q_cell]
      split at h
      ·cases h
      ·rename_i hc; rw [hc]; exact x_out h
     ·exact x_out h
     ·cases h
theorem x_indexAddr {s : TypeId} {x ix : Operand} (h : indexAddrE P nn d s x ix e = some E1) : qrun ct none (indexAddrQ P nn d s x ix) e (fun x => x = E1) := by
 unfold indexAddrE at h; unfold indexAddrQ
 split at h
 ·cases h
 ·rename_i ti ht; rw [ht]
  dsimp only
  split at h
  ·cases h
  ·rename_i el he; rw [he]
   dsimp only
   split at h
   ·cases h
   ·rename_i te hte; rw [hte]
    split at h
    ·cases h
    ·rename_i av hx; dsimp only; rw [x_opd hx]
     split at h
     ·cases h
     ·rename_i n hn; rw [x_iop hn]
      unfold iaE at h
      split at h
      ·dsimp only
       split at h
       ·rename_i hc; rw [if_pos hc, q_hd]
        split at h
        ·rename_i hh; rw [hh]
         split at h
         ·rename_i hl; dsimp only; rw [if_pos hl]; exact x_out h
         ·cases h
        ·cases h
       ·cases h
      ·dsimp only
       split at h
       ·rename_i hl; rw [if_pos hl]; exact x_out h
       ·cases h
      ·cases h
theorem x_make {t : TypeId} {l c : Operand} (h : makeE P nn d t l c e = some E1) : qrun ct none (makeQ P nn d t l c) e (fun x => x = E1) := by
 unfold makeE at h; unfold makeQ
 split at h
 ·cases h
 ·rename_i ti ht; rw [ht]
  dsimp only
  split at h
  ·cases h
  ·rename_i el he; rw [he]
   dsimp only
   split at h
   ·cases h
   ·rename_i te hte; rw [hte]
    split at h
    ·cases h
    ·rename_i n hn; dsimp only; rw [x_iop hn]
     split at h
     ·cases h
     ·rename_i m hm; rw [x_iop hm]
      split at h
      ·rename_i hl; rw [if_pos hl]; exact x_set h
      ·cases h
theorem x_extract {x : Operand} {i : Nat} (h : extractE nn d x i e = some E1) : qrun ct none (extractQ nn d x i) e (fun x => x = E1) := by
 unfold extractE at h; unfold extractQ
 split at h
 ·rename_i s
  dsimp only
  rw [q_slot]
  split at h
  ·rename_i ts hv; rw [hv]
   dsimp only
   unfold exE at h
   split at h
   ·rename_i ht; rw [ht]; exact x_out h
   ·rename_i ht; rw [ht]; exact x_out h
   ·rename_i ht; rw [ht]
    dsimp only
    split at h
    ·rename_i hd; rw [if_pos hd, q_tcon]
     split at h
     ·rename_i hc; rw [hc]; exact x_set h
     ·cases h
    ·cases h
   ·cases h
  ·cases h
 ·cases h
theorem x_len {s : TypeId} {x : Operand} (h : lenE P nn d s x e = some E1) : qrun ct none (lenQ P nn d s x) e (fun x => x = E1) := by
 unfold lenE at h; unfold lenQ
 split at h
 ·cases h
 ·rename_i av hx; rw [x_opd hx]
  unfold lnE at h
  split at h
  ·split at h
   ·rename_i hs; dsimp only; rw [if_pos hs]; exact x_out h
   ·cases h
  ·rename_i hne
   split at h
   ·cases h
   ·rename_i ti ht
    split
    ·exact (hne _ rfl).elim
    ·rw [ht]
     dsimp only
     split at h
     ·rename_i he; rw [if_pos he]
      split at h
      ·dsimp only
       split at h
       ·rename_i hc; rw [if_pos hc, q_hd]
        split at h
        ·rename_i hh; rw [hh]; exact x_out h
        ·cases h
       ·cases h
      ·exact x_out h
      ·exact x_out h
      ·cases h
     ·cases h
theorem x_parts : ∀ {ps : List (Nat × Operand)} {rs : List (Nat × List C)} {k : List (Nat × List C) → Q}, partsE e ps = some rs → qrun ct none (partsQ ps k) e K = qrun ct none (k rs) e K
 | [], rs, k, h => by cases h; rfl
 | (i, x) :: ps, rs, k, h => by
  unfold partsE at h; unfold partsQ
  split at h
  ·cases h
  ·rename_i av hx; rw [x_opd hx]
   split at h
   ·cases h
   ·rename_i ys hy; rw [hy]
    split at h
    ·cases h
    ·rename_i rs' hrs; cases h; exact x_parts hrs
theorem x_build {t : TypeId} {ps : List (Nat × Operand)} (h : buildE P nn d t ps e = some E1) : qrun ct none (buildQ P nn d t ps) e (fun x => x = E1) := by
 unfold buildE at h; unfold buildQ
 split at h
 ·cases h
 ·rename_i ti ht; rw [ht]
  dsimp only
  split at h
  ·cases h
  ·rename_i f fs hf; rw [hf]
   dsimp only
   split at h
   ·cases h
   ·rename_i pl hpl; rw [hpl]
    dsimp only
    split at h
    ·cases h
    ·rename_i rs hrs; rw [x_parts hrs]
     split at h
     ·rename_i ys hys; rw [hys]; exact x_out h
     ·cases h
theorem x_src {k : Nat} {av2 : AV} {kq : List (List C) → Q} {kb : Nat → Path → List C → Q} {r : SrcR} (h : srcE e k av2 = some r) : qrun ct none (srcQ k av2 kq kb) e K = qrun ct none (match r with
 | .flat rows2 => kq rows2
 | .row s p row => kb s p row) e K := by
 unfold srcE at h; unfold srcQ
 split at h
 ·cases h; rfl
 ·dsimp only at h ⊢
  split at h
  ·rename_i hc; cases h; rw [if_pos hc]
  ·cases h
 ·dsimp only at h ⊢
  split at h
  ·rename_i hc; rw [if_pos hc, q_sub]
   split at h
   ·rename_i hsub; rw [hsub]; dsimp only
    split at h
    ·rename_i hk; rw [if_pos hk]
     split at h
     ·rename_i hok; cases h; rw [if_pos hok]
     ·rename_i hok; rw [if_neg hok]
      split at h
      ·split at h
       ·rename_i hone; cases h; dsimp only; rw [if_pos hone]
       ·cases h
      ·cases h
    ·cases h
   ·cases h
  ·cases h
 ·cases h
theorem x_append {s : TypeId} {x y : Operand} (h : appendE P nn d s x y e = some E1) : qrun ct none (appendQ P nn d s x y) e (fun x => x = E1) := by
 unfold appendE at h; unfold appendQ
 split at h
 ·cases h
 ·rename_i ti ht; rw [ht]; try dsimp only
  split at h
  ·cases h
  ·rename_i el hel; rw [hel]; try dsimp only
   split at h
   ·cases h
   ·rename_i te hte; rw [hte]; try dsimp only
    split at h
    ·cases h
    ·rename_i dd; try dsimp only
     split at h
     ·cases h
     ·rename_i av hx; rw [x_opd hx]
      split at h
      ·cases h
      ·rename_i av2 hy; rw [x_opd hy]
       unfold apE at h
       split at h
       ·show qrun ct none (srcQ te.size av2 _ _) e _
        unfold apNilE at h
        split at h
        ·rename_i rows2 hsrc; rw [x_src hsrc]; try dsimp only
         split at h
         ·rename_i hc; rw [if_pos hc]; exact x_set h
         ·cases h
        ·rename_i s2 p2 row hsrc; rw [x_src hsrc]; try dsimp only
         split at h
         ·rename_i hc; cases h; rw [if_pos hc, q_ups]
         ·cases h
        ·cases h
       ·try dsimp only
        split at h
        ·rename_i hc; rw [if_pos hc, q_sub]
         split at h
         ·rename_i hsub; rw [hsub]; try dsimp only
          split at h
          ·rename_i hk; rw [if_pos hk]
           unfold apOwnE at h
           split at h
           ·rename_i rows2 hsrc; rw [x_src hsrc]; try dsimp only
            split at h
            ·rename_i hc; rw [if_pos hc]; exact x_set h
            ·cases h
           ·rename_i s2 p2 row hsrc; rw [x_src hsrc]; try dsimp only
            split at h
            ·rename_i hc; cases h; rw [if_pos hc, q_ups]
            ·cases h
           ·cases h
          ·cases h
         ·cases h
        ·cases h
       ·cases h
theorem x_buildSlice {ty : TypeId} {n : Nat} {ps : List (Nat × Operand)} (h : buildSliceE P nn d ty n ps e = some E1) : qrun ct none (buildSliceQ P nn d ty n ps) e (fun x => x = E1) := by
 unfold buildSliceE at h; unfold buildSliceQ
 split at h
 ·cases h
 ·rename_i ti ht; rw [ht]; try dsimp only
  split at h
  ·cases h
  ·rename_i el hel; rw [hel]; try dsimp only
   split at h
   ·cases h
   ·rename_i te hte; rw [hte]; try dsimp only
    split at h
    ·rename_i hc; rw [if_pos hc]
     split at h
     ·cases h
     ·rename_i rs hrs; rw [x_parts hrs]
      split at h
      ·rename_i ys hys; rw [hys]; try dsimp only
       split at h
       ·rename_i hf; rw [if_pos hf]; exact x_set h
       ·cases h
      ·cases h
    ·cases h
theorem x_moveSlice {el : TypeId} {te : TI} {av : AV} (h : moveSliceE nn d el te e av = some E1) : qrun ct none (moveSliceQ nn d el te av) e (fun x => x = E1) := by
 unfold moveSliceE at h; unfold moveSliceQ
 split at h
 ·try dsimp only
  split at h
  ·rename_i hc; rw [if_pos hc]
   split at h
   ·cases h
   ·rename_i cs hcs; rw [x_subs hcs]
    split at h
    ·rename_i hone; rw [if_pos hone]
     split at h
     ·rename_i hf; rw [if_pos hf]; exact x_set h
     ·rename_i hf; cases h; rw [if_neg hf, q_ups]
    ·cases h
  ·cases h
 ·cases h
theorem x_bs1 {ty : TypeId} {x : Operand} (h : bs1E P nn d ty x e = some E1) : qrun ct none (bs1Q P nn d ty x) e (fun x => x = E1) := by
 unfold bs1E at h; unfold bs1Q
 split at h
 ·cases h
 ·rename_i ti ht; rw [ht]; dsimp only
  split at h
  ·cases h
  ·rename_i el hel; rw [hel]; dsimp only
   split at h
   ·cases h
   ·rename_i te hte; rw [hte]; dsimp only
    split at h
    ·cases h
    ·rename_i av hx; rw [x_opd hx]
     split at h
     ·rename_i hp; rw [hp]; exact x_buildSlice h
     ·rename_i hp; rw [hp]; dsimp only
      split at h
      ·rename_i hc; rw [if_pos hc]; exact x_moveSlice h
      ·cases h
theorem x_bs {ty : TypeId} {n : Nat} {ps : List (Nat × Operand)} (h : bsE P nn d ty n ps e = some E1) : qrun ct none (bsQ P nn d ty n ps) e (fun x => x = E1) := by
 unfold bsE at h; unfold bsQ
 split at h
 ·exact x_bs1 h
 ·rename_i n' ps' hne
  split
  ·exact (hne _ rfl rfl).elim
  ·exact x_buildSlice h
theorem x_bnd {x : Option Operand} {k : Option Int → Q} {n : Option Int} (h : bndE e x = some n) : qrun ct none (bndQ x k) e K = qrun ct none (k n) e K := by
 unfold bndE at h; unfold bndQ
 split at h
 ·cases h; rfl
 ·split at h
  ·cases h
  ·rename_i m hm; cases h; exact x_iop hm
theorem x_slice {s : TypeId} {x : Operand} {lo hi : Option Operand} (h : sliceE P nn d s x lo hi e = some E1) : qrun ct none (sliceQ P nn d s x lo hi) e (fun x => x = E1) := by
 unfold sliceE at h; unfold sliceQ
 split at h
 ·cases h
 ·rename_i ti ht; rw [ht]; try dsimp only
  split at h
  ·cases h
  ·rename_i el hel; rw [hel]; try dsimp only
   split at h
   ·cases h
   ·rename_i te hte; rw [hte]; try dsimp only
    split at h
    ·cases h
    ·rename_i av hx; rw [x_opd hx]
     split at h
     ·cases h
     ·rename_i l hl; rw [x_bnd hl]
      split at h
      ·cases h
      ·rename_i m hm; rw [x_bnd hm]
       unfold slAvE at h
       split at h
       ·try dsimp only
        split at h
        ·rename_i hc; rw [if_pos hc]; exact x_out h
        ·cases h
       ·try dsimp only
        split at h
        ·cases h
        ·try dsimp only
         split at h
         ·rename_i hc; rw [if_pos hc, q_sub]
          split at h
          ·rename_i hsub; rw [hsub]; try dsimp only
           split at h
           ·rename_i hk; rw [if_pos hk]; exact x_set h
           ·cases h
          ·cases h
         ·cases h
       ·cases h
theorem x_mm {mx : Bool} {x y : Operand} (h : mmE nn d mx x y e = some E1) : qrun ct none (mmQ nn d mx x y) e (fun x => x = E1) := by
 unfold mmE at h; unfold mmQ
 split at h
 ·cases h
 ·rename_i av hx; rw [x_opd hx]
  split at h
  ·cases h
  ·rename_i av2 hy; rw [x_opd hy]
   unfold mmAvE at h
   split at h
   ·exact x_out h
   ·cases h
theorem x_wholes {no : List Nat} : ∀ {rs : List (Nat × Nat)} {css : List (List C)} {k : List (List C) → Q}, (rs.all fun x => !no.contains x.1) = true → wholesE e rs = some css → qrun ct none (wholesQ no rs k) e K = qrun ct none (k css) e K
 | [], css, k, _, h => by cases h; rfl
 | (r, g) :: rs, css, k, hno, h => by
  unfold wholesE at h; unfold wholesQ
  rw [List.all_cons, Bool.and_eq_true] at hno
  rw [if_pos (by simpa using hno.1), q_whole]
  split at h
  ·cases h
  ·rename_i t ys hw
   rw [hw]
   dsimp only
   split at h
   ·cases h
   ·rename_i css' hc
    cases h
    rw [x_wholes hno.2 hc]
theorem x_caps : ∀ {xs : List Operand} {rs : List (Nat × Nat)} {k : List (Nat × Nat) → Q}, capsE e xs = some rs → qrun ct none (capsQ xs k) e K = qrun ct none (k rs) e K
 | [], rs, k, h => by cases h; rfl
 | x :: xs, rs, k, h => by
  unfold capsE at h; unfold capsQ
  split at h
  ·cases h
  ·rename_i rg hb
   cases hx : opE e x with
   | none => rw [hx] at hb; cases hb
   | some av =>
    rw [hx] at hb
    have hb : isBoxP av = some rg := hb
    rw [x_opd hx, hb]
    dsimp only
    split at h
    ·cases h
    ·rename_i l hl
     cases h
     rw [x_caps hl]
theorem x_mkFn {g : FuncId} {caps : List Operand} (h : mkFnE nn d g caps e = some E1) : qrun ct none (mkFnQ nn d g caps) e (fun x => x = E1) := by
 unfold mkFnE at h; unfold mkFnQ
 split at h
 ·cases h
 ·rename_i rs hc; rw [x_caps hc]; exact x_out h
theorem x_op (h : opX P nn o.dst o.op e = some E1) : qrun ct none (opQ P nn o) e (fun x => x = E1) := by
 unfold opX at h; unfold opQ
 split at h <;> rename_i ho <;> (try rw [ho])
 ·exact x_mv h
 ·exact x_assign h
 ·exact x_pick h
 ·exact x_alloc h
 ·exact x_box h
 ·exact x_load h
 ·exact x_store h
 ·exact x_bin h
 ·exact x_un h
 ·exact x_fieldAddr h
 ·exact x_indexAddr h
 ·exact x_make h
 ·exact x_extract h
 ·exact x_build h
 ·exact x_len h
 ·exact x_mkFn h
 ·exact x_bs h
 ·dsimp only
  split at h
  ·rename_i hs; rw [if_pos hs]; exact x_append h
  ·cases h
 ·exact x_slice h
 ·exact x_mm h
 ·exact x_mm h
 ·cases h
theorem x_gop {s : Nat} {b : Option Bool} {k : Option Bool → Q} (h : gopE e s = some b) : qrun ct none (.slot s fun av => guardQ av k) e K = qrun ct none (k b) e K := by
 rw [q_slot]
 unfold gopE at h
 generalize slotView s (e.gen s) (e.s s) = av at h
 unfold gvE at h; unfold guardQ
 split at h <;> cases h <;> rfl
theorem bop_gop {s : Nat} {b : Bool} (h : bopE e (.tmp s) = some b) : gopE e s = some (some b) := by
 unfold bopE opE at h
 dsimp only at h
 unfold gopE
 generalize slotView s (e.gen s) (e.s s) = av at h
 unfold boolE at h
 split at h <;> cases h
 rfl
theorem x_skip (h : skipE nn d e = some E1) : qrun ct none (skipQ nn d) e (fun x => x = E1) := by
 unfold skipE at h; unfold skipQ
 split at h
 ·exact x_set h
 ·cases h; rw [q_ups]; rfl
theorem x_g (h : gX P nn ds o e = some E1) : qrun ct none (gQ P nn ds o) e (fun x => x = E1) := by
 unfold gX at h; unfold gQ
 split at h
 ·rename_i hg; rw [hg]; exact x_op h
 ·rename_i j want hg; rw [hg]
  dsimp only
  split at h
  ·rename_i dj hdj; rw [hdj]
   dsimp only
   split at h
   ·cases h
   ·rename_i b hb
    refine Eq.mpr (x_gop hb) ?_
    split at h
    ·rename_i hw; rw [if_pos hw]; exact x_op h
    ·rename_i hw; rw [if_neg hw]; exact x_skip h
  ·cases h
def notCall : Op → Bool
 | .call ⟨.value _, _, _⟩ => false
 | _ => true
theorem aops_ev {l : List Oper} (_ : notCall o.op = true) (h : gX P nn ds o e = some E1) (h2 : Aops P nn ds l E1 K) : Aops P nn ds (o :: l) e K := aops_step (x_g h) h2
theorem aops_evs {l : List Oper} (h : gX P nn ds o e = some E1) (h2 : Aops P nn ds l E1 K) : Aops P nn ds (o :: l) e K := aops_step (x_g h) h2
def argE (e : Env) : AV → Option Arg
 | .c x => some (.c x)
 | .agg xs => some (.agg xs)
 | .ref r g p ag n => if 0 < n then (match subsE e r g p n with
  | none => none
  | some cs => match ag, cs with
   | true, cs => some (.agg cs)
   | false, [c] => some (.c c)
   | _, _ => none) else none
 | .fn g css => some (.fn g css)
 | .rp xs => some (.rp xs)
 | .clo g rs => (match wholesE e rs with
  | none => none
  | some css => some (.fn g css))
 | _ => none
def argsE (e : Env) : List Operand → Option (List Arg)
 | [] => some []
 | x :: xs => match opE e x with
  | none => none
  | some av => match argE e av with
   | none => none
   | some a => match argsE e xs with
    | none => none
    | some as => some (a :: as)
def roE (e : Env) : AV → Bool
 | .ref r g p _ n => (match subsE e r g p n with
  | none => false
  | some cs => cs.all C.freeB)
 | .clo _ _ => false
 | _ => true
def rosE (e : Env) : List Operand → Bool
 | [] => true
 | x :: xs => (match opE e x with
  | none => false
  | some av => roE e av) && rosE e xs
def notO (e : Env) (r : Nat) (x : Operand) : Bool := match opE e x with
 | some (.ref r' _ _ _ _) => r' != r
 | some (.clo _ rs) => rs.all fun x => x.1 != r
 | _ => true
def noOk (no : List Nat) : AV → Bool
 | .ref r' _ _ _ _ => !no.contains r'
 | .clo _ rs => rs.all fun x => !no.contains x.1
 | _ => true
theorem x_arg {no : List Nat} {av : AV} {a : Arg} {k : Bool → Arg → Q} (hno : noOk no av = true) (h : argE e av = some a) : qrun ct none (argQ no av k) e K = qrun ct none (k (roE e av) a) e K := by
 unfold argE at h; unfold argQ roE
 split at h
 ·cases h; rfl
 ·cases h; rfl
 ·dsimp only
  split at h
  ·rename_i hn
   rw [if_pos ⟨hn, by simpa [noOk] using hno⟩]
   split at h
   ·cases h
   ·rename_i cs hs; rw [x_subs hs]
    split at h
    ·cases h; simp only [hs]
    ·cases h; simp only [hs, List.all_cons, List.all_nil, Bool.and_true]
    ·cases h
  ·cases h
 ·cases h; rfl
 ·cases h; rfl
 ·dsimp only
  split at h
  ·cases h
  ·rename_i css hc; cases h; rw [x_wholes hno hc]
 ·cases h
theorem noOk_none (av : AV) : noOk [] av = true := by
 cases av with
 | clo g rs => show (rs.all _) = true; simp
 | _ => rfl
theorem noOk_some {no : List Nat} {x : Operand} {av : AV} (h : ∀ r, no.contains r = true → notO e r x = true) (hx : opE e x = some av) : noOk no av = true := by
 cases av with
 | ref r' g p ag n =>
  show (!no.contains r') = true
  cases hc : no.contains r' with
  | false => rfl
  | true =>
   have h1 := h _ hc
   unfold notO at h1
   rw [hx] at h1
   simp at h1
 | clo g rs =>
  show (rs.all _) = true
  rw [List.all_eq_true]
  intro x hxm
  cases hc : no.contains x.1 with
  | false => rfl
  | true =>
   have h1 := h _ hc
   unfold notO at h1
   rw [hx] at h1
   have h2 := List.all_eq_true.1 h1 x hxm
   simp at h2
 | _ => rfl
theorem x_args {no : List Nat} : ∀ {xs : List Operand} {as : List Arg} {k : Bool → List Arg → Q}, (∀ r, no.contains r = true → xs.all (notO e r) = true) → argsE e xs = some as → qrun ct none (argsQ no xs k) e K = qrun ct none (k (rosE e xs) as) e K
 | [], as, k, _, h => by cases h; rfl
 | x :: xs, as, k, hno, h => by
  unfold argsE at h; unfold argsQ rosE
  split at h
  ·cases h
  ·rename_i av hx; rw [x_opd hx]
   split at h
   ·cases h
   ·rename_i a ha
    have hno1 : noOk no av = true := noOk_some (fun r hr => by have := hno r hr; rw [List.all_cons, Bool.and_eq_true] at this; exact this.1) hx
    rw [x_arg hno1 ha]
    split at h
    ·cases h
    ·rename_i as' has; cases h; rw [x_args (fun r hr => by have := hno r hr; rw [List.all_cons, Bool.and_eq_true] at this; exact this.2) has]
theorem argE_box {av : AV} {a : Arg} (h : argE e av = some a) : isBoxP av = none ∧ a.isIo = false := by
 unfold argE at h
 split at h
 ·cases h; exact ⟨rfl, rfl⟩
 ·cases h; exact ⟨rfl, rfl⟩
 ·split at h
  ·split at h
   ·cases h
   ·split at h
    ·cases h; exact ⟨rfl, rfl⟩
    ·cases h; exact ⟨rfl, rfl⟩
    ·cases h
  ·cases h
 ·cases h; exact ⟨rfl, rfl⟩
 ·cases h; exact ⟨rfl, rfl⟩
 ·split at h
  ·cases h
  ·cases h; exact ⟨rfl, rfl⟩
 ·cases h
theorem argsE_io {xs : List Operand} {as : List Arg} (h : argsE e xs = some as) : (as[0]?).map Arg.isIo ≠ some true := by
 cases xs with
 | nil => cases h; simp
 | cons x xs =>
  unfold argsE at h
  split at h
  ·cases h
  ·split at h
   ·cases h
   ·rename_i a ha
    split at h
    ·cases h
    ·cases h; simp [(argE_box ha).2]
theorem x_recv {d : Nat} {f : FuncId} {xs : List Operand} {as : List Arg} (h : argsE e xs = some as) (hq : qrun ct none (.call f (rosE e xs) as (retU d)) e K) : qrun ct none (recvQ nn d f xs) e K := by
 cases xs with
 | nil => cases h; exact hq
 | cons x xs =>
  unfold recvQ
  dsimp only
  unfold argsE at h
  split at h
  ·cases h
  ·rename_i av hx; rw [x_opd hx]
   split at h
   ·cases h
   ·rename_i a ha
    rw [(argE_box ha).1]
    dsimp only
    refine .inl ?_
    rw [x_arg (noOk_none _) ha]
    split at h
    ·cases h
    ·rename_i as' has
     cases h
     rw [x_args (fun r hr => by cases hr) has]
     unfold rosE at hq
     simp only [hx] at hq
     exact hq
theorem x_recvio {d r g : Nat} {f : FuncId} {t : TypeId} {ys : List C} {x : Operand} {xs : List Operand} {as : List Arg} (hx : boxpE (opE e x) = some (r, g)) (hdr : d ≠ r) (hw : e.whole r g = some (t, ys)) (hno : xs.all (notO e r) = true) (h : argsE e xs = some as) (hq : qrun ct none (.call f (rosE e xs) (.io t ys :: as) (ioU r d)) e K) : qrun ct none (recvQ nn d f (x :: xs)) e K := by
 unfold recvQ
 dsimp only
 cases hav : opE e x with
 | none => rw [hav] at hx; cases hx
 | some av =>
  rw [hav] at hx
  have hx : isBoxP av = some (r, g) := hx
  rw [x_opd hav, hx]
  dsimp only
  rw [if_pos hdr, q_whole, hw]
  dsimp only
  refine .inl ?_
  rw [x_args (fun r' hr' => by simp at hr'; subst hr'; exact hno) h]
  exact hq
theorem x_recvgi {d r g r2 g2 n : Nat} {t : TypeId} {ys : List C} {ag : Bool} {cs : List C} {f : FuncId} {x x2 : Operand} {xs : List Operand} {as : List Arg} (hx : boxpE (opE e x) = some (r, g)) (hdr : d ≠ r) (hw : e.whole r g = some (t, ys)) (hx2 : opE e x2 = some (.ref r2 g2 [(0, 0)] ag n)) (hn : 0 < n) (hag : ag = false → n = 1) (hdr2 : d ≠ r2) (hrr : r ≠ r2) (hs : subsE e r2 g2 [(0, 0)] n = some cs)
 (hno : xs.all (notO e r) = true) (hno2 : xs.all (notO e r2) = true) (hro : rosE e xs = true) (h : argsE e xs = some as)
 (hq : qrun ct none (.call f true (.io t ys :: .own ag cs :: as) (fun res => holesU r2 [(0, 0)] n ++ ioU r d res)) e K) : qrun ct none (recvQ nn d f (x :: x2 :: xs)) e K := by
 unfold recvQ
 dsimp only
 cases hav : opE e x with
 | none => rw [hav] at hx; cases hx
 | some av =>
  rw [hav] at hx
  have hx : isBoxP av = some (r, g) := hx
  rw [x_opd hav, hx]
  dsimp only
  rw [if_pos hdr, q_whole, hw]
  dsimp only
  refine .inr ⟨rfl, ?_⟩
  rw [x_opd hx2]
  unfold giveQ
  dsimp only
  rw [if_pos ⟨hn, by simp; exact ⟨fun hh => hrr hh.symm, fun hh => hdr2 hh.symm⟩, rfl, hag⟩, x_subs hs, x_args (fun r' hr' => by simp at hr'; rcases hr' with rfl | rfl <;> assumption) h, if_pos hro]
  exact hq
def callsTo (o : Oper) (d : Nat) (f : FuncId) (args : List Operand) : Prop := o.dst = some d ∧ ∃ ts, o.op = .call ⟨.value (.func f), args.toArray, ts⟩
theorem aops_call {l : List Oper} {s : Nat} {f : FuncId} {args : List Operand} {as : List Arg} {Post : Res → Prop} (hg : o.guard = none) (hc : callsTo o s f args) (hd : s < nn) (hm : callOk P f = true) (ha : argsE e args = some as) (hp : DCalls P f as Post) (h2 : ∀ r, Post r → Aops P nn ds l (e.set s (resAV r) fun i => resCon r (0, i)) K) : Aops P nn ds (o :: l) e K := by
 obtain ⟨h1, ts, h3⟩ := hc
 refine aops_some (R := fun e' => ∃ r', Post r' ∧ e' = e.set s (resAV r') fun i => resCon r' (0, i)) ?_ (fun e' ⟨r', hr, he⟩ => he ▸ h2 r' hr)
 unfold gQ; rw [hg]
 dsimp only
 unfold opQ; rw [h3]
 show qrun _ _ (callQ P nn o.dst f args) _ _
 unfold callQ; rw [h1]
 dsimp only
 rw [if_pos ⟨hd, hm⟩]
 refine x_recv ha ?_
 rw [q_call]
 exact ⟨Post, by rw [xcalls_plain (argsE_io ha)]; exact .inl hp, fun r' hr => ⟨r', hr, rfl⟩⟩
theorem aops_callg {l : List Oper} {s j dj : Nat} {want : Bool} {f : FuncId} {args : List Operand} {as : List Arg} {Post : Res → Prop} (hg : o.guard = some (j, want)) (hj : ds[j]? = some (some dj)) (hb : bopE e (.tmp dj) = some want) (hc : callsTo o s f args) (hd : s < nn) (hm : callOk P f = true) (ha : argsE e args = some as) (hp : DCalls P f as Post) (h2 : ∀ r, Post r → Aops P nn ds l (e.set s (resAV r) fun i => resCon r (0, i)) K) : Aops P nn ds (o :: l) e K := by
 obtain ⟨h1, ts, h3⟩ := hc
 refine aops_some (R := fun e' => ∃ r', Post r' ∧ e' = e.set s (resAV r') fun i => resCon r' (0, i)) ?_ (fun e' ⟨r', hr, he⟩ => he ▸ h2 r' hr)
 unfold gQ; rw [hg]
 dsimp only
 rw [hj]
 dsimp only
 refine Eq.mpr (x_gop (bop_gop hb)) ?_
 rw [if_pos rfl]
 unfold opQ; rw [h3]
 show qrun _ _ (callQ P nn o.dst f args) _ _
 unfold callQ; rw [h1]
 dsimp only
 rw [if_pos ⟨hd, hm⟩]
 refine x_recv ha ?_
 rw [q_call]
 exact ⟨Post, by rw [xcalls_plain (argsE_io ha)]; exact .inl hp, fun r' hr => ⟨r', hr, rfl⟩⟩
theorem aops_callA {l : List Oper} {s : Nat} {f : FuncId} {args : List Operand} {as : List Arg} {Post : Res → Prop} (hg : o.guard = none) (hc : callsTo o s f args) (hd : s < nn) (hm : callOk P f = true) (ha : argsE e args = some as) (hro : rosE e args = true) (hp : ACalls P f as Post) (h2 : ∀ r, Post r → Aops P nn ds l (e.set s (resAV r) fun i => resCon r (0, i)) K) : Aops P nn ds (o :: l) e K := by
 obtain ⟨h1, ts, h3⟩ := hc
 refine aops_some (R := fun e' => ∃ r', Post r' ∧ e' = e.set s (resAV r') fun i => resCon r' (0, i)) ?_ (fun e' ⟨r', hr, he⟩ => he ▸ h2 r' hr)
 unfold gQ; rw [hg]
 dsimp only
 unfold opQ; rw [h3]
 show qrun _ _ (callQ P nn o.dst f args) _ _
 unfold callQ; rw [h1]
 dsimp only
 rw [if_pos ⟨hd, hm⟩]
 refine x_recv ha ?_
 rw [q_call]
 exact ⟨Post, by rw [xcalls_plain (argsE_io ha)]; exact .inr ⟨hro, hp⟩, fun r' hr => ⟨r', hr, rfl⟩⟩
def fnOf : AV → Option (FuncId × List (List C))
 | .fn g css => some (g, css)
 | .c (.p (.func (.func g) ⟨[]⟩ ⟨[]⟩)) => some (g, [])
 | _ => none
def fnOp (e : Env) (s : Nat) : Option (FuncId × List (List C)) := fnOf (slotView s (e.gen s) (e.s s))
def fnTo (o : Oper) (d z : Nat) (args : List Operand) : Prop := o.dst = some d ∧ ∃ ts, o.op = .call ⟨.value (.tmp z), args.toArray, ts⟩
theorem fnOf_io {as : List Arg} {css : List (List C)} (h : (as[0]?).map Arg.isIo ≠ some true) : ((as ++ css.map Arg.rp)[0]?).map Arg.isIo ≠ some true := by
 cases as with
 | nil => cases css <;> simp [Arg.isIo]
 | cons a as => simpa using h
theorem x_fnCall {s z : Nat} {args : List Operand} {g : FuncId} {css : List (List C)} {as : List Arg} (hd : s < nn) (hz : fnOp e z = some (g, css)) (hm : callOk P g = true) (ha : argsE e args = some as) (hq : qrun ct none (.call g (rosE e args) (as ++ css.map .rp) (retU s)) e K) : qrun ct none (fnCallQ P nn (some s) z args) e K := by
 unfold fnCallQ
 rw [q_slot]
 unfold fnOp at hz
 generalize slotView z (e.gen z) (e.s z) = av at hz
 unfold fnOf at hz
 split at hz
 ·cases hz
  dsimp only
  rw [if_pos ⟨hd, hm⟩, x_args (fun r hr => by cases hr) ha]
  exact hq
 ·cases hz
  dsimp only
  rw [if_pos ⟨hd, hm⟩, x_args (fun r hr => by cases hr) ha]
  simpa using hq
 ·cases hz
theorem aops_fncall {l : List Oper} {s z : Nat} {args : List Operand} {g : FuncId} {css : List (List C)} {as : List Arg} {Post : Res → Prop} (hg : o.guard = none) (hc : fnTo o s z args) (hd : s < nn) (hz : fnOp e z = some (g, css)) (hm : callOk P g = true) (ha : argsE e args = some as) (hp : DCalls P g (as ++ css.map .rp) Post) (h2 : ∀ r, Post r → Aops P nn ds l (e.set s (resAV r) fun i => resCon r (0, i)) K) : Aops P nn ds (o :: l) e K := by
 obtain ⟨h1, ts, h3⟩ := hc
 refine aops_some (R := fun e' => ∃ r', Post r' ∧ e' = e.set s (resAV r') fun i => resCon r' (0, i)) ?_ (fun e' ⟨r', hr, he⟩ => he ▸ h2 r' hr)
 unfold gQ; rw [hg]
 dsimp only
 unfold opQ; rw [h3]
 show qrun _ _ (fnCallQ P nn o.dst z args) _ _
 rw [h1]
 refine x_fnCall hd hz hm ha ?_
 rw [q_call]
 exact ⟨Post, by rw [xcalls_plain (fnOf_io (argsE_io ha))]; exact .inl hp, fun r' hr => ⟨r', hr, rfl⟩⟩
theorem aops_callio {l : List Oper} {s : Nat} {f : FuncId} {x : Operand} {xs : List Operand} {r g : Nat} {t : TypeId} {ys : List C} {as : List Arg} {Post : Res → Prop} (hg : o.guard = none) (hc : callsTo o s f (x :: xs)) (hd : s < nn) (hm : callOk P f = true) (hx : boxpE (opE e x) = some (r, g)) (hsr : s ≠ r) (hw : e.whole r g = some (t, ys)) (hno : xs.all (notO e r) = true) (ha : argsE e xs = some as) (hp : SCalls P f t ys as Post ∨ (rosE e xs = true ∧ ACalls P f (.io t ys :: as) Post)) (h2 : ∀ res, Post res → Aops P nn ds l (upds (ioU r s res) e) K) : Aops P nn ds (o :: l) e K := by
 obtain ⟨h1, ts, h3⟩ := hc
 refine aops_some (R := fun e' => ∃ r', Post r' ∧ e' = upds (ioU r s r') e) ?_ (fun e' ⟨r', hr, he⟩ => he ▸ h2 r' hr)
 unfold gQ; rw [hg]
 dsimp only
 unfold opQ; rw [h3]
 show qrun _ _ (callQ P nn o.dst f (x :: xs)) _ _
 unfold callQ; rw [h1]
 dsimp only
 rw [if_pos ⟨hd, hm⟩]
 refine x_recvio hx hsr hw hno ha ?_
 rw [q_call]
 exact ⟨Post, by rw [xcalls_io (argsE_io ha)]; exact hp, fun r' hr => ⟨r', hr, rfl⟩⟩
theorem aops_callGio {l : List Oper} {s r g r2 g2 n : Nat} {t : TypeId} {ys : List C} {ag : Bool} {cs : List C} {f : FuncId} {x x2 : Operand} {xs : List Operand} {as : List Arg} {Post : Res → Prop} (hg : o.guard = none) (hc : callsTo o s f (x :: x2 :: xs)) (hd : s < nn) (hm : callOk P f = true) (hx : boxpE (opE e x) = some (r, g)) (hsr : s ≠ r) (hw : e.whole r g = some (t, ys)) (hx2 : opE e x2 = some (.ref r2 g2 [(0, 0)] ag n)) (hn : 0 < n) (hag : ag = false → n = 1) (hsr2 : s ≠ r2) (hrr : r ≠ r2) (hs : subsE e r2 g2 [(0, 0)] n = some cs) (hno : xs.all (notO e r) = true) (hno2 : xs.all (notO e r2) = true) (hro : rosE e xs = true) (ha : argsE e xs = some as) (hp : GICalls P f t ys ag cs as Post) (h2 : ∀ res, Post res → Aops P nn ds l (upds (ioU r s res) (e.holes r2 [(0, 0)] n)) K) : Aops P nn ds (o :: l) e K := by
 obtain ⟨h1, ts, h3⟩ := hc
 refine aops_some (R := fun e' => ∃ r', Post r' ∧ e' = upds (holesU r2 [(0, 0)] n ++ ioU r s r') e) ?_ (fun e' ⟨r', hr, he⟩ => by rw [he, upds_app, upds_holes]; exact h2 r' hr)
 unfold gQ; rw [hg]
 dsimp only
 unfold opQ; rw [h3]
 show qrun _ _ (callQ P nn o.dst f (x :: x2 :: xs)) _ _
 unfold callQ; rw [h1]
 dsimp only
 rw [if_pos ⟨hd, hm⟩]
 refine x_recvgi hx hsr hw hx2 hn hag hsr2 hrr hs hno hno2 hro ha ?_
 rw [q_call]
 exact ⟨Post, ⟨rfl, hp⟩, fun r' hr => ⟨r', hr, rfl⟩⟩
end
end Go.Proofs.YtdiiggpohcjppaaGreat
