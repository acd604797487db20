/- Parts of the proof. -/
import Derived.Test.YtfknckinfcicbaaGreatCJn8
import Derived.Deep.LoopGhost
set_option linter.unusedSimpArgs false
set_option linter.unusedVariables false
namespace Go.Proofs.YtfknckinfcicbaaGreat
section
open Go Go.RowKit
section
variable {P:Program} {w0:Base}
def DW (P:Program) (w0:Base) (c:Code) (Q:Exit → Env → Prop) (e:Env):Prop:=∀ a w,St w0 e a w → c.wp P (fun ex a' w'=>∃ e',Q ex e' ∧ St w0 e' a' w') a w
def Weak (e e':Env):Prop:=∀ w0 a w,St w0 e a w → St w0 e' a w
theorem Weak.refl (e:Env):Weak e e:=fun _ _ _ h=>h
theorem Weak.trans {a b c:Env} (h:Weak a b) (k:Weak b c):Weak a c:=fun w0 x w hs=>k w0 x w (h w0 x w hs)
theorem gz {c:Code} {Q:Exit → Env → Prop} {e e':Env} (h:Weak e e') (k:DW P w0 c Q e'):DW P w0 c Q e:=fun a w hs=>k a w (h w0 a w hs)
theorem Xp {c:Code} {Q Q':Exit → Env → Prop} {e:Env} (hQ:∀ ex e,Q ex e → Q' ex e) (h:DW P w0 c Q e):DW P w0 c Q' e:=fun a w hs=>wp_mono (h a w hs) fun _ _ _ ⟨e',h1,h2⟩=>⟨e',hQ _ _ h1,h2⟩
def v6 (next:Env → Prop) (Q:Exit → Env → Prop):Exit → Env → Prop
 | .normal,e=>next e
 | ex,e=>Q ex e
theorem ab {x y:Code} {Q:Exit → Env → Prop} {e:Env} (h:DW P w0 x (v6 (DW P w0 y Q) Q) e):DW P w0 (.seq x y) Q e:=fun a w hs=>by
 refine wp_seq (wp_mono (h a w hs) ?_);rintro ex a' w' ⟨e',h1,h2⟩;cases ex <;> first | exact h1 a' w' h2 | exact ⟨e',h1,h2⟩
theorem af {Q:Exit → Env → Prop} {e:Env} (h:Q .normal e):DW P w0 .skip Q e:=fun _ _ hs=>wp_skip ⟨e,h,hs⟩
theorem Ox {id:Nat} {Q:Exit → Env → Prop} {e:Env} (h:Q (.exit id) e):DW P w0 (.exit id) Q e:=fun _ _ hs=>wp_exit ⟨e,h,hs⟩
theorem ai {Q:Exit → Env → Prop} {e:Env} (h:Q .ret e):DW P w0 .ret Q e:=fun _ _ hs=>wp_ret ⟨e,h,hs⟩
def Ml (id:Nat) (Q:Exit → Env → Prop):Exit → Env → Prop
 | .exit id',e=>if id' = id then Q .normal e else Q (.exit id') e
 | ex,e=>Q ex e
theorem ac {id:Nat} {c:Code} {Q:Exit → Env → Prop} {e:Env} (h:DW P w0 c (Ml id Q) e):DW P w0 (.block id c) Q e:=fun a w hs=>by
 refine wp_block (wp_mono (h a w hs) ?_);rintro ex a' w' ⟨e',h1,h2⟩
 cases ex with
 | exit id' =>
  show (if id' = id then _ else _);have h1:(if id' = id then Q .normal e' else Q (.exit id') e'):=h1;split
  ·rename_i hi; rw [if_pos hi] at h1; exact ⟨e',h1,h2⟩
  ·rename_i hi; rw [if_neg hi] at h1; exact ⟨e',h1,h2⟩
 | _=>exact ⟨e',h1,h2⟩
def Fp (e:Env):Operand → Option Bool
 | .tmp s=>match e.s s with
  | .c (.p (.bool b))=>some b
  | _=>none
 | .const (.bool b)=>some b
 | _=>none
theorem Me {e:Env} {c:Operand} {b:Bool} {a:Act} {w:World} (h:Fp e c = some b) (hs:St w0 e a w):a.eval c = .bool b:=by
 obtain ⟨val,S,hs⟩:=hs;unfold Fp at h;split at h
 ·rename_i s
  have:=hs.slot s;split at h
  ·rename_i b' hb
   rw [hb] at this;cases h;exact fp this
  ·cases h
 ·cases h; rfl
 ·cases h
theorem Xq {c:Operand} {x y:Code} {b:Bool} {Q:Exit → Env → Prop} {e:Env} (hc:Fp e c = some b) (ht:b = true → DW P w0 x Q e) (hf:b = false → DW P w0 y Q e):DW P w0 (.cond c x y) Q e:=fun a w hs =>
 wp_cond_split (Me hc hs) (fun hb=>ht hb a w hs) (fun hb=>hf hb a w hs)
theorem Ow {c:Code} {Q:Exit → Env → Prop} {e:Env} {X:Type} (I:X → Prop) (env:X → Env) (μ:X → Nat) (x0:X) (h0:I x0) (he:Weak e (env x0))
 (round:∀ x,I x → DW P w0 c (v6 (fun e'=>∃ x',I x' ∧ μ x' < μ x ∧ Weak e' (env x')) Q) (env x)):DW P w0 (.loop c) Q e:=fun a w hs=>by
 refine wp_loop_ghost (fun n a' w'=>∃ x,μ x = n ∧ I x ∧ St w0 (env x) a' w') (μ x0) ⟨x0,rfl,h0,he w0 a w hs⟩ ?_;rintro n a' w' ⟨x,rfl,hx,hst⟩;refine wp_mono (round x hx a' w' hst) ?_;rintro ex a2 w2 ⟨e',h1,h2⟩
 cases ex with
 | normal =>
  obtain ⟨x',h3,h4,h5⟩:=h1;exact ⟨μ x',h4,x',rfl,h3,h5 w0 a2 w2 h2⟩
 | _=>exact ⟨e',h1,h2⟩
def Env.clean (e:Env):Env :=
 { n:=e.n
   s:=fun s=>match e.s s with
    | .ref r g p ag n=>if (List.range n).all (fun i=>e.okB r g (a6 p i)) = true then .ref r 0 p ag n else .dead
    | .ptr r g p k=>if e.okB r g p.dropLast = true then .ptr r 0 p k else .dead
    | .clo g rs=>if rs.all (fun x=>e.okB x.1 x.2 []) = true then .clo g (rs.map fun x=>(x.1,0)) else .dead
    | av=>av
   con:=e.con
   gen:=fun _=>0
   dirty:=fun _=>[] }
theorem Kj (e:Env):Weak e e.clean:=fun w0 a w ⟨val,S,h⟩=>by
 refine ⟨val,S,h.sz,h.defers,h.mem,fun s=>?_,h.frm,h.low,h.rts,h.sS⟩;have hs:=h.slot s
 show SV _ _ _ _ _ (match e.s s with
  | .ref r g p ag n=>if (List.range n).all (fun i=>e.okB r g (a6 p i)) = true then .ref r 0 p ag n else .dead
  | .ptr r g p k=>if e.okB r g p.dropLast = true then .ptr r 0 p k else .dead
  | .clo g rs=>if rs.all (fun x=>e.okB x.1 x.2 []) = true then .clo g (rs.map fun x=>(x.1,0)) else .dead
  | av=>av) _
 cases hav:e.s s with
 | ref r g p ag n =>
  rw [hav] at hs;dsimp only;split
  ·rename_i hok
   refine ⟨Nat.le_refl _,fun _=>hs.2 fun i hi=>i4 (List.all_eq_true.1 hok i (List.mem_range.2 hi))⟩
  ·trivial
 | ptr r g p k =>
  rw [hav] at hs;dsimp only;split
  ·rename_i hok
   exact ⟨Nat.le_refl _,fun _=>hs.2 (i4 hok)⟩
  ·trivial
 | clo g rs =>
  rw [hav] at hs;dsimp only;split
  ·rename_i hok
   obtain ⟨vs,h1,h2,h3⟩:=hs;refine ⟨vs,h1,by simpa using h2,fun i r g' hi=>?_⟩;rw [List.getElem?_map] at hi
   cases hri:rs[i]? with
   | none=>rw [hri] at hi; cases hi
   | some x =>
    obtain ⟨r1,g1⟩:=x;rw [hri] at hi;cases hi;exact ⟨Nat.le_refl _,fun _=>(h3 i r1 g1 hri).2 (i4 (List.all_eq_true.1 hok (r1,g1) (List.mem_of_getElem? hri)))⟩
  ·trivial
 | _=>rw [hav] at hs; exact hs
def mkE (n:Nat) (sl:List (Nat × AV)) (cn:List (bh × Con)):Env:=⟨n,fun s=>(sl.lookup s).getD .dead,fun k=>cn.lookup k,fun _=>0,fun _=>[]⟩
def Yh (P:Program) (pa:Nat → List Arg → Res → Prop) (i:Nat):Cts:=fun f ro args Post=>Post = pa i args ∧ kw P f ro args Post ∧ ∃ r,Post r
theorem Ly {id:Nat} {ops:Array Oper} {Q:Exit → Env → Prop} {e:Env} (st:Nat → Stat) (pa:Nat → List Arg → Res → Prop) (hm:P.follows .mixedOrders = true) (hreg:Wo ops st = true)
 (h:td P e.n (Yh P pa) (fun i=>some (st i)) ops (List.range ops.size) e (Q .normal)):DW P w0 (.region id ops true) Q e:=fun a w hs=>by
 refine wp_region_any hm (Ki (fun i f ro args Post hh=>hh.2.1) (fun i f ro args P1 P2 h1 h2=>h1.1.trans h2.1.symm) (fun i f ro args P1 h1=>h1.2.2) hreg (fun e' a' w' hK hs'=>⟨e',hK,hs'⟩) ops.size _ (List.range ops.size) e a _ (by simp) (by simp) (List.pairwise_lt_range) (fun j=>?_) (fun j k hj=>?_) h rfl ?_)
 ·rw [List.mem_range];constructor
  ·intro hj; exact ⟨hj,by simp [hj]⟩
  ·intro hj; exact hj.1
 ·rw [getD_replicate_false] at hj; cases hj
 ·exact hs.below (Below.refl _ _).drew
end
end
section
open Go Go.RowKit
def Arg.av:Arg → AV
 | .c x=>.c x
 | .agg xs=>.agg xs
 | .io _ _=>.dead
 | .own ag xs=>.own ag xs.length
 | .fn g css=>.fn g css
 | .rp xs=>.rp xs
def bf:Nat → List Arg → List (Nat × AV)
 | _,[]=>[]
 | i,x :: xs=>(i,x.av) :: bf (i + 1) xs
def bw (nn:Nat) (as:List Arg):Env:=mkE nn (bf 0 as) []
theorem ld:∀ (as:List Arg) (i s:Nat),(bf i as).lookup s = if i ≤ s then (as[s - i]?).map Arg.av else none
 | [],i,s=>by simp [bf]
 | x :: xs,i,s=>by
  unfold bf;rw [List.lookup_cons]
  by_cases h:s = i
  ·subst h; simp
  ·have:(s == i) = false:=by simpa using h
   rw [this];simp only;rw [ld xs (i + 1) s]
   by_cases hi:i ≤ s
   ·rw [if_pos (by omega),if_pos hi,show s - i = (s - (i + 1)) + 1 by omega]; rfl
   ·rw [if_neg (by omega),if_neg hi]
def C.owned (c:C):Prop:=∀ p c',c.at p = some c' → ∀ t k rows,c' ≠ .sl false t k rows
theorem Nt (v:Value):(C.p v).owned:=fun p c' h t k rows he=>by
 cases p with
 | nil=>rw [da] at h; cases h; cases he
 | cons s p=>simp [C.at] at h
theorem wv {t:TypeId} {k:Nat} {rows:List (List C)} (h:∀ r ∈ rows,∀ c ∈ r,c.owned):(C.sl true t k rows).owned:=fun p c' hp t' k' rows' he=>by
 cases p with
 | nil=>rw [da] at hp; cases hp; cases he
 | cons s p =>
  obtain ⟨t2,k2,rows2,c2,he2,h3,h4⟩:=ei hp;cases he2;obtain ⟨r,g1,g2⟩:=bi.1 h3;exact h r (List.mem_of_getElem? g1) c2 (List.mem_of_getElem? g2) p c' h4 t' k' rows' he
inductive RE (P:Program) (e:Env):ResultVar → RV → Prop
 | plain (s:Nat) (v:Value):e.s s = .c (.p v) → RE P e (.tmp s) (.c (.p v))
 | aggp (s:Nat) (vs:List Value):e.s s = .agg (vs.map C.p) → RE P e (.tmp s) (.agg (vs.map C.p))
 | own (s:Nat) (ag:Bool) (n:Nat) (xs:List C):e.s s = .own ag n → e.con (s,0) = some ⟨none,xs⟩ → (∀ x ∈ xs,x.owned) → RE P e (.tmp s) (.own ag xs)
 | nilo (s:Nat) (t k:Nat):e.s s = .c (.p (.slice none 0 0)) → 0 < k → RE P e (.tmp s) (.own false [.sl true t k []])
 | cell (s:Nat) (t t':TypeId) (ti:TI) (xs:List C):e.s s = .box → e.con (s,0) = some ⟨some t',xs⟩ → bp P t = some ti → ti.agg = true → ti.size = xs.length → (∀ x ∈ xs,x.owned) → RE P e (.cell s t) (.own true xs)
 | cellp (s:Nat) (t t':TypeId) (ti:TI) (v:Value):e.s s = .box → e.con (s,0) = some ⟨some t',[.p v]⟩ → bp P t = some ti → ti.agg = false → RE P e (.cell s t) (.c (.p v))
def cy:ResultVar → Nat
 | .tmp s=>s
 | .cell s _=>s
inductive REs (P:Program) (e:Env):List ResultVar → List RV → Prop
 | nil:REs P e [] []
 | cons (v:ResultVar) (vs:List ResultVar) (r:RV) (rs:List RV):RE P e v r → REs P e vs rs → REs P e (v :: vs) (r :: rs)
def Fin (P:Program) (fn:Func) (Post:Res → Prop):Exit → Env → Prop
 | .normal,e | .ret,e=>∃ r,REs P e fn.results.toList r ∧ (fn.results.toList.map cy).Nodup ∧ Post r
 | _,_=>False
section
variable {P:Program} {w0:Base} {e:Env} {a:Act} {w:World} {val:Val} {S:Nat → Prop}
theorem REs.length {vs:List ResultVar} {rs:List RV} (h:REs P e vs rs):vs.length = rs.length:=by
 induction h with
 | nil=>rfl
 | cons v vs r rs h1 h2 ih=>simp [ih]
theorem REs.at_ {vs:List ResultVar} {rs:List RV} (h:REs P e vs rs):∀ (i:Nat) (r:RV),rs[i]? = some r → ∃ v,vs[i]? = some v ∧ RE P e v r:=by
 induction h with
 | nil=>intro i r h; simp at h
 | cons v vs r rs h1 h2 ih =>
  intro i r' hi
  cases i with
  | zero=>simp at hi; subst hi; exact ⟨v,rfl,h1⟩
  | succ i=>simp at hi; obtain ⟨v',h3,h4⟩:=ih i r' hi; exact ⟨v',by simpa using h3,h4⟩
def Base.of (w:World) (S0:Nat → Prop):Base:=⟨w,fun _=>False,fun _=>undef,S0⟩
theorem Base.of_mine {w:World} {S0:Nat → Prop} {b:Nat} (h:(Base.of w S0).mine b):w.heap.size ≤ b:=h.elim id fun h=>h.elim
theorem Frm.refl (w:World) (G:Nat → Prop) (R:Nat → Value) (S0:Nat → Prop):Frm ⟨w,G,R,S0⟩ w:=⟨rfl,rfl,rfl,Nat.le_refl _,fun _ _ _=>rfl⟩
theorem Frm.to_below {w w':World} {S0:Nat → Prop} (h:Frm (Base.of w S0) w'):Below w.heap.size w w':=⟨h.os,h.tape,h.output,h.size,fun k hk=>h.block k hk id⟩
theorem X3 {x:Arg} {u:Value} (h:fi w x u):dq w (fun b=>b < w.heap.size) x u:=by
 cases x with
 | c y=>exact RO.weak h fun b _ hb=>hb
 | agg ys=>obtain ⟨us,h3,h4⟩:=h; exact ⟨us,h3,h4.keep (fun b _ hb=>hb) fun _ _ _=>rfl⟩
 | io t xs=>exact h.elim
 | own ag xs=>exact h.elim
 | fn g css=>exact FNok.keep h (fun b _ hb=>hb) fun _ _ _=>rfl
 | rp xs=>exact RPok.keep h (fun b _ hb=>hb) fun _ _ _=>rfl
theorem H8 {nn:Nat} {as:List Arg} {vs:Array Value} {S0:Nat → Prop} (hn:as.length ≤ nn) (hl:vs.size = as.length) (hS:∀ b,S0 b → b < w.heap.size) (hv:∀ (i:Nat) (x:Arg),as[i]? = some x → ∃ u,vs[i]? = some u ∧ dq w S0 x u) :
 St (Base.of w S0) (bw nn as) { tmps:=vs ++ Array.replicate (nn - vs.size) undef,defers:=[] } w:=by
 refine ⟨fun _ _=>undef,S0,?_,rfl,⟨fun key cn p c h1=>(by cases h1),fun key t xs h1=>(by cases h1),fun b k p k' p' h1=>?_,fun b hb=>⟨hS b hb,fun k p ho=>?_⟩⟩,fun s=>?_,Frm.refl _ _ _ _,fun b k p ho=>?_,fun _ _=>rfl,fun b hb=>.inr hb⟩
 ·show (vs ++ Array.replicate (nn - vs.size) undef).size = nn;simp; omega
 ·obtain ⟨x,hx⟩:=h1.some; cases hx
 ·obtain ⟨x,hx⟩:=ho.some; cases hx
 ·show SV _ _ _ _ s (((bf 0 as).lookup s).getD .dead) _;rw [ld,if_pos (Nat.zero_le _),Nat.sub_zero]
  cases hx:as[s]? with
  | none=>trivial
  | some x =>
   obtain ⟨u,h1,h2⟩:=hv s x hx
   have hg:(vs ++ Array.replicate (nn - vs.size) undef).getD s undef = u:=by
    have:s < vs.size:=(Array.getElem?_eq_some_iff.1 h1).1;rw [Array.getD_eq_getD_getElem?,Array.getElem?_append_left this,h1]; rfl
   show SV _ _ _ _ s x.av ((vs ++ Array.replicate (nn - vs.size) undef).getD s undef);rw [hg]
   cases x with
   | c y=>exact h2
   | agg ys=>exact h2
   | io t xs=>exact h2.elim
   | own ag xs=>exact h2.elim
   | fn g css=>exact h2
   | rp xs=>exact h2
 ·obtain ⟨x,hx⟩:=ho.some; cases hx
def jt (nn:Nat) (t:TypeId) (xs:List C) (as:List Arg):Env:=mkE nn ((0,.ptr nn 0 [(0,0)] 0) :: bf 1 as) [((nn,0),⟨some t,xs⟩)]
theorem uw {nn:Nat} {t:TypeId} {xs:List C} {as:List Arg} {key:bh} {cn:Con} (h:(jt nn t xs as).con key = some cn):key = (nn,0) ∧ cn = ⟨some t,xs⟩:=by
 have h:([((nn,0),(⟨some t,xs⟩:Con))]:List (bh × Con)).lookup key = some cn:=h;rw [List.lookup_cons] at h;split at h
 ·rename_i he; cases h; exact ⟨eq_of_beq he,rfl⟩
 ·cases h
theorem Sf {nn:Nat} {t:TypeId} {xs:List C} {as:List Arg} {vs:Array Value} {val0:Val} {S0:Nat → Prop} (hn:as.length + 1 ≤ nn) (hl:vs.size = as.length + 1) (hm:MemOk w (dw t xs []) val0 S0) (h0:vs[0]? = some (val0 (1,0) []))
 (hv:∀ (i:Nat) (x:Arg),as[i]? = some x → ∃ u,vs[i + 1]? = some u ∧ dq w S0 x u) :
 St ⟨w,Do val0 t xs,fun s=>if s = nn then val0 (1,0) [] else undef,S0⟩ (jt nn t xs as) { tmps:=vs ++ Array.replicate (nn - vs.size) undef,defers:=[] } w:=by
 obtain ⟨val,hval⟩:∃ val:Val,val = fun key p=>if key = (nn,0) then val0 (1,0) p else undef:=⟨_,rfl⟩
 have vn:∀ p,val (nn,0) p = val0 (1,0) p:=fun p=>by rw [hval]; simp
 have io1:dw t xs [] (1,0) = some ⟨some t,xs⟩:=by unfold dw; rw [if_pos rfl]
 have hown:∀ b key p,OwnB (jt nn t xs as).con val b key p → key = (nn,0) ∧ OwnB (dw t xs []) val0 b (1,0) p:=fun b key p ho=>by
  obtain ⟨cn,hc⟩:=ho.some;obtain ⟨rfl,rfl⟩:=uw hc;refine ⟨rfl,?_⟩
  rcases ho with ⟨k1,⟨t',zs,k2⟩,k3⟩ | ⟨cn,t',k,rows,n,cap,k1,k2,k3⟩
  ·rw [vn] at k3; exact .inl ⟨k1,⟨t,xs,io1⟩,k3⟩
  ·rw [hc] at k1; cases k1; rw [vn] at k3; exact .inr ⟨_,t',k,rows,n,cap,io1,k2,k3⟩
 refine ⟨val,S0,?_,rfl,⟨fun key cn p c h1 h2=>?_,fun key t' zs h1=>?_,fun b k p k' p' h1 h2=>?_,fun b hb=>⟨(hm.sep b hb).1,fun k p ho=>(hm.sep b hb).2 _ _ (hown _ _ _ ho).2⟩⟩,fun s=>?_,Frm.refl _ _ _ _,fun b k p ho=>.inr ⟨p,(hown _ _ _ ho).2⟩,fun s hs=>?_,fun b hb=>.inr hb⟩
 ·show (vs ++ Array.replicate (nn - vs.size) undef).size = nn;simp; omega
 ·obtain ⟨rfl,rfl⟩:=uw h1;exact (hm.node _ _ p c io1 h2).reval (va:=val0 (1,0)) fun z=>vn _
 ·obtain ⟨rfl,h2⟩:=uw h1;cases h2;obtain ⟨b,cur,g1,g2,g3,g4⟩:=hm.root _ _ _ io1;exact ⟨b,cur,by rw [vn]; exact g1,g2,g3,fun i hi=>by rw [vn]; exact g4 i hi⟩
 ·obtain ⟨rfl,k1⟩:=hown _ _ _ h1;obtain ⟨rfl,k2⟩:=hown _ _ _ h2;exact ⟨rfl,(hm.inj _ _ _ _ _ k1 k2).2⟩
 ·show SV _ _ _ _ s ((((0,AV.ptr nn 0 [(0,0)] 0) :: bf 1 as).lookup s).getD .dead) _;rw [List.lookup_cons]
  cases s with
  | zero =>
   show SV _ _ _ _ 0 (.ptr nn 0 [(0,0)] 0) _
   have hg:(vs ++ Array.replicate (nn - vs.size) undef).getD 0 undef = val0 (1,0) []:=by
    rw [Array.getD_eq_getD_getElem?,Array.getElem?_append_left (by omega),h0]; rfl
   show _ ∧ _;rw [hg];obtain ⟨b,cur,g1,-⟩:=hm.root _ _ _ io1;exact ⟨Nat.le_refl _,fun _=>⟨[],0,0,b,0,rfl,by rw [g1],.inl ⟨rfl,rfl,rfl,by rw [vn]; exact g1⟩⟩⟩
  | succ s =>
   have:(s + 1 == 0) = false:=by simp
   rw [this];simp only;rw [ld,if_pos (by omega),Nat.add_sub_cancel]
   cases hx:as[s]? with
   | none=>trivial
   | some x =>
    obtain ⟨u,h1,h2⟩:=hv s x hx
    have hg:(vs ++ Array.replicate (nn - vs.size) undef).getD (s + 1) undef = u:=by
     have:s + 1 < vs.size:=(Array.getElem?_eq_some_iff.1 h1).1;rw [Array.getD_eq_getD_getElem?,Array.getElem?_append_left this,h1]; rfl
    show SV _ _ _ _ (s + 1) x.av ((vs ++ Array.replicate (nn - vs.size) undef).getD (s + 1) undef);rw [hg]
    cases x with
    | c y=>exact h2
    | agg ys=>exact h2
    | io t xs=>exact h2.elim
    | own ag xs=>exact h2.elim
    | fn g css=>exact h2
    | rp xs=>exact h2
 ·show val (s,0) [] = if s = nn then val0 (1,0) [] else undef
  by_cases hsn:s = nn
  ·rw [if_pos hsn,hsn]; exact vn []
  ·rw [if_neg hsn,hval]; simp [hsn]
theorem Rd {i nn:Nat} {as:List Arg} {vs:Array Value} {S0:Nat → Prop} (hv:∀ (j:Nat) (x:Arg),as[j]? = some x → ∃ u,vs[j + i]? = some u ∧ dq w S0 x u) (s:Nat) (his:i ≤ s):SV e w val S0 s (((bf i as).lookup s).getD .dead) ((vs ++ Array.replicate (nn - vs.size) undef).getD s undef):=by
 rw [ld,if_pos his]
 cases hx:as[s - i]? with
 | none=>trivial
 | some x =>
  obtain ⟨u,h1,h2⟩:=hv _ x hx;rw [Nat.sub_add_cancel his] at h1
  have hg:(vs ++ Array.replicate (nn - vs.size) undef).getD s undef = u:=by
   have:s < vs.size:=(Array.getElem?_eq_some_iff.1 h1).1;rw [Array.getD_eq_getD_getElem?,Array.getElem?_append_left this,h1]; rfl
  rw [hg]
  cases x with
  | c y=>exact h2
  | agg ys=>exact h2
  | io t xs=>exact h2.elim
  | own ag xs=>exact h2.elim
  | fn g css=>exact h2
  | rp xs=>exact h2
theorem gcon2 {io:Option (TypeId × List C)} {cs:List C}:u7 io cs (2,0) = some ⟨none,cs⟩:=by unfold u7; rw [if_neg (by simp),if_pos rfl]
theorem gcon1 {t:TypeId} {xs cs:List C}:u7 (some (t,xs)) cs (1,0) = some ⟨some t,xs⟩:=by unfold u7; rw [if_pos rfl]; rfl
theorem OwnB.rekey {con con':bh → Option Con} {val val':Val} {b:Nat} {key key':bh} {p:aj} (h:OwnB con val b key p) (hc:con' key' = con key) (hv:val' key' = val key):OwnB con' val' b key' p:=by
 rcases h with ⟨h1,h2,h3⟩ | ⟨cn,t,k,rows,n,cap,h1,h2,h3⟩
 ·exact .inl ⟨h1,by rw [hc]; exact h2,by rw [hv]; exact h3⟩
 ·exact .inr ⟨cn,t,k,rows,n,cap,by rw [hc]; exact h1,h2,by rw [hv]; exact h3⟩
def uy (nn:Nat) (t:TypeId) (xs:List C) (ag:Bool) (cs:List C) (as:List Arg):Env:=mkE nn ((0,.ptr nn 0 [(0,0)] 0) :: (1,.own ag cs.length) :: bf 2 as) [((1,0),⟨none,cs⟩),((nn,0),⟨some t,xs⟩)]
theorem ux {nn:Nat} {t:TypeId} {xs:List C} {ag:Bool} {cs:List C} {as:List Arg} {key:bh} {cn:Con} (h:(uy nn t xs ag cs as).con key = some cn):(key = (1,0) ∧ cn = ⟨none,cs⟩) ∨ (key = (nn,0) ∧ cn = ⟨some t,xs⟩):=by
 have h:([((1,0),(⟨none,cs⟩:Con)),((nn,0),⟨some t,xs⟩)]:List (bh × Con)).lookup key = some cn:=h;rw [List.lookup_cons] at h;split at h
 ·rename_i he; cases h; exact .inl ⟨eq_of_beq he,rfl⟩
 ·rw [List.lookup_cons] at h;split at h
  ·rename_i he; cases h; exact .inr ⟨eq_of_beq he,rfl⟩
  ·cases h
theorem Ja (nn:Nat) (t:TypeId) (xs:List C) (ag:Bool) (cs:List C) (as:List Arg):(uy nn t xs ag cs as).con (1,0) = some ⟨none,cs⟩:=rfl
theorem Sg {nn:Nat} {t:TypeId} {xs:List C} {ag:Bool} {cs:List C} {as:List Arg} {vs:Array Value} {val0:Val} {S0:Nat → Prop} (hn:as.length + 2 ≤ nn) (hl:vs.size = as.length + 2) (hm:MemOk w (u7 (some (t,xs)) cs) val0 S0) (hp:vs[0]? = some (val0 (1,0) [])) (h0:∃ u,vs[1]? = some u ∧ TVok w S0 (some ⟨none,cs⟩) (val0 (2,0)) (.own ag cs.length) u)
 (hv:∀ (i:Nat) (x:Arg),as[i]? = some x → ∃ u,vs[i + 2]? = some u ∧ dq w S0 x u) :
 St ⟨w,Ms (some (t,xs)) cs val0,fun s=>if s = nn then val0 (1,0) [] else undef,S0⟩ (uy nn t xs ag cs as) { tmps:=vs ++ Array.replicate (nn - vs.size) undef,defers:=[] } w:=by
 obtain ⟨val,hval⟩:∃ val:Val,val = fun key=>if key = (1,0) then val0 (2,0) else if key = (nn,0) then val0 (1,0) else fun _=>undef:=⟨_,rfl⟩
 have h1n:((nn,0):bh) ≠ (1,0):=by simp; omega
 have v1:val (1,0) = val0 (2,0):=by rw [hval]; simp
 have vn:val (nn,0) = val0 (1,0):=by rw [hval]; simp only [if_neg h1n,if_pos]
 have hown:∀ b key p,OwnB (uy nn t xs ag cs as).con val b key p → (key = (1,0) ∧ OwnB (u7 (some (t,xs)) cs) val0 b (2,0) p) ∨ (key = (nn,0) ∧ OwnB (u7 (some (t,xs)) cs) val0 b (1,0) p):=fun b key p ho=>by
  obtain ⟨cn,hc⟩:=ho.some
  rcases ux hc with ⟨rfl,rfl⟩ | ⟨rfl,rfl⟩
  ·exact .inl ⟨rfl,ho.rekey (gcon2.trans hc.symm) v1.symm⟩
  ·exact .inr ⟨rfl,ho.rekey (gcon1.trans hc.symm) vn.symm⟩
 refine ⟨val,S0,?_,rfl,⟨fun key cn p c k1 k2=>?_,fun key t' zs k1=>?_,fun b k p k' p' k1 k2=>?_,fun b hb=>⟨(hm.sep b hb).1,fun k p ho=>?_⟩⟩,fun s=>?_,Frm.refl _ _ _ _,fun b k p ho=>?_,fun s hs=>?_,fun b hb=>.inr hb⟩
 ·show (vs ++ Array.replicate (nn - vs.size) undef).size = nn;simp; omega
 ·rcases ux k1 with ⟨rfl,rfl⟩ | ⟨rfl,rfl⟩
  ·rw [v1]; exact hm.node _ _ p c gcon2 k2
  ·rw [vn]; exact hm.node _ _ p c gcon1 k2
 ·rcases ux k1 with ⟨rfl,k2⟩ | ⟨rfl,k2⟩
  ·cases k2
  ·cases k2; rw [vn]; exact hm.root _ _ _ gcon1
 ·rcases hown _ _ _ k1 with ⟨rfl,g1⟩ | ⟨rfl,g1⟩ <;> rcases hown _ _ _ k2 with ⟨rfl,g2⟩ | ⟨rfl,g2⟩
  ·exact ⟨rfl,(hm.inj _ _ _ _ _ g1 g2).2⟩
  ·exact absurd (hm.inj _ _ _ _ _ g1 g2).1 (by simp)
  ·exact absurd (hm.inj _ _ _ _ _ g1 g2).1 (by simp)
  ·exact ⟨rfl,(hm.inj _ _ _ _ _ g1 g2).2⟩
 ·rcases hown _ _ _ ho with ⟨-,g1⟩ | ⟨-,g1⟩ <;> exact (hm.sep b hb).2 _ _ g1
 ·show SV _ _ _ _ s ((((0,AV.ptr nn 0 [(0,0)] 0) :: (1,AV.own ag cs.length) :: bf 2 as).lookup s).getD .dead) _;rw [List.lookup_cons]
  match s with
  | 0 =>
   show SV _ _ _ _ 0 (.ptr nn 0 [(0,0)] 0) _
   have hg:(vs ++ Array.replicate (nn - vs.size) undef).getD 0 undef = val0 (1,0) []:=by
    rw [Array.getD_eq_getD_getElem?,Array.getElem?_append_left (by omega),hp]; rfl
   show _ ∧ _;rw [hg];obtain ⟨b,cur,g1,-⟩:=hm.root _ _ _ gcon1;exact ⟨Nat.le_refl _,fun _=>⟨[],0,0,b,0,rfl,by rw [g1],.inl ⟨rfl,rfl,rfl,by rw [vn]; exact g1⟩⟩⟩
  | 1 =>
   obtain ⟨u,g1,g2⟩:=h0
   have hg:(vs ++ Array.replicate (nn - vs.size) undef).getD 1 undef = u:=by
    rw [Array.getD_eq_getD_getElem?,Array.getElem?_append_left (by omega),g1]; rfl
   show SV _ _ _ _ 1 (.own ag cs.length) _;rw [hg];show TVok _ _ ((uy nn t xs ag cs as).con (1,0)) (val (1,0)) _ _;rw [v1,Ja]; exact g2
  | s + 2 =>
   have e1:(s + 2 == 0) = false:=by simp
   have e2:(s + 2 == 1) = false:=by simp
   rw [e1];dsimp only;rw [List.lookup_cons,e2];exact Rd hv (s + 2) (by omega)
 ·rcases hown _ _ _ ho with ⟨-,g1⟩ | ⟨-,g1⟩ <;> exact .inr ⟨_,_,g1⟩
 ·have hs:nn ≤ s:=hs
  show val (s,0) [] = if s = nn then val0 (1,0) [] else undef
  by_cases hsn:s = nn
  ·rw [if_pos hsn,hsn,vn]
  ·rw [if_neg hsn,hval];simp only [Prod.mk.injEq];rw [if_neg (by omega),if_neg (by omega)]
def kn (tmps:Array Value):ResultVar → Sem Value
 | .tmp t=>pure (tmps.getD t undef)
 | .cell x t=>do loadVar t (← asAddr (tmps.getD x undef))
def Dn (w:World) (S':Nat → Prop) (con:bh → Option Con) (val:Val) (s:Nat) (r:RV) (u:Value) (va:aj → Value):Prop :=
 TVok w S' r.con va r.tv u ∧ (∀ xs p c,r.con = some ⟨none,xs⟩ → look xs p = some c → NodeOk w S' va p c) ∧ ∀ b p xs t k rows n cap o,r.con = some ⟨none,xs⟩ → look xs p = some (.sl true t k rows) → va p = .slice (some ⟨b,o,none⟩) n cap → OwnB con val b (s,0) p
abbrev ROne (w:World) (con:bh → Option Con) (val:Val) (s:Nat) (r:RV) (u:Value) (va:aj → Value):Prop:=Dn w (fun _=>False) con val s r u va
theorem Ld {xs:List C} (h:∀ x ∈ xs,x.owned) {p:aj} {c:C} (hl:look xs p = some c):∀ t k rows,c ≠ .sl false t k rows:=by
 cases p with
 | nil=>cases hl
 | cons s p =>
  obtain ⟨j,i⟩:=s
  cases j with
  | succ j=>cases hl
  | zero =>
   simp only [look] at hl
   cases hx:xs[i]? with
   | none=>rw [hx] at hl; cases hl
   | some x=>rw [hx] at hl; exact h x (List.mem_of_getElem? hx) p c hl
theorem Lc {va:aj → Value} {p:aj} {c:C} (h:NodeOk w S va p c) (ho:∀ t k rows,c ≠ .sl false t k rows):NodeOk w (fun _=>False) va p c:=by
 cases c with
 | p v=>exact h
 | hole=>trivial
 | sl own t k rows =>
  cases own with
  | true=>exact h
  | false=>exact absurd rfl (ho t k rows)
theorem Nu (h:StV w0 e a w val S) {s:Nat} {bx:Option TypeId} {xs:List C} (hc:e.con (s,0) = some ⟨bx,xs⟩) (ho:∀ x ∈ xs,x.owned) :
 (∀ p c,look xs p = some c → NodeOk w (fun _=>False) (val (s,0)) p c) ∧ ∀ b p t k rows n cap o,look xs p = some (.sl true t k rows) → val (s,0) p = .slice (some ⟨b,o,none⟩) n cap → OwnB e.con val b (s,0) p :=
 ⟨fun p c hl=>Lc (h.mem.node _ _ _ _ hc hl) (Ld ho hl),fun _ _ t k rows n cap o hl hv=>.inr ⟨_,t,k,rows,n,cap,hc,hl,o,hv⟩⟩
theorem Vu (h:StV w0 e a w val S) {v:ResultVar} {r:RV} (hr:RE P e v r):∃ u va,(kn a.tmps v).run P w = .ok u w ∧ ROne w e.con val (cy v) r u va:=by
 cases hr with
 | plain s v hs =>
  have hsv:=h.slot s;rw [hs] at hsv;refine ⟨_,fun _=>undef,rfl,?_,fun xs p c hx=>(by cases hx),fun b p xs t k rows n cap o hx=>(by cases hx)⟩;have:a.tmps.getD s undef = v:=fp hsv;show RO _ _ _ _;rw [this]; exact .p v
 | aggp s vs hs =>
  have hsv:=h.slot s;rw [hs] at hsv;obtain ⟨us,h1,h2,h3⟩:=hsv;refine ⟨_,fun _=>undef,rfl,⟨us,h1,h2,fun i x hx=>?_⟩,fun xs p c hx=>(by cases hx),fun b p xs t k rows n cap o hx=>(by cases hx)⟩;obtain ⟨u,h4,h5⟩:=h3 i x hx;refine ⟨u,h4,?_⟩;simp only [List.getElem?_map,Option.map_eq_some_iff] at hx;obtain ⟨y,-,rfl⟩:=hx;rw [fp h5]; exact .p y
 | own s ag n xs hs hc ho =>
  have hsv:=h.slot s;rw [hs] at hsv;obtain ⟨g1,g2⟩:=Nu h hc ho;refine ⟨_,val (s,0),rfl,?_,fun xs' p c hx hl=>?_,fun b p xs' t k rows n cap o hx hl hv=>?_⟩
  ·have hsv:TVok w S (e.con (s,0)) (val (s,0)) (.own ag n) (a.tmps.getD s undef):=hsv;rw [hc] at hsv;show TVok w _ (some ⟨none,xs⟩) (val (s,0)) (.own ag xs.length) _
   cases ag with
   | false =>
    obtain ⟨⟨x,h1⟩,h2,h3⟩:=hsv;cases h1;exact ⟨⟨x,rfl⟩,rfl,h3⟩
   | true =>
    obtain ⟨xs2,vs,h1,h2,h3,h4,h5⟩:=hsv;cases h1;subst h2;exact ⟨xs,vs,rfl,rfl,h3,h4,h5⟩
  ·cases hx; exact g1 p c hl
  ·cases hx; exact g2 b p t k rows n cap o hl hv
 | nilo s t k hs hk =>
  have hsv:=h.slot s;rw [hs] at hsv;have:a.tmps.getD s undef = .slice none 0 0:=fp hsv;refine ⟨_,fun _=>.slice none 0 0,rfl,⟨⟨_,rfl⟩,rfl,this⟩,fun xs' p c hx hl=>?_,fun b p xs' t k rows n cap o hx hl hv=>(by cases hv)⟩;cases hx
  have hp:p = [(0,0)] ∧ c = .sl true t k []:=by
   cases p with
   | nil=>cases hl
   | cons s p =>
    obtain ⟨j,i⟩:=s
    cases j with
    | succ j=>cases hl
    | zero =>
     cases i with
     | succ i=>simp [look] at hl
     | zero =>
      simp only [look,List.getElem?_cons_zero,Option.bind_some] at hl
      cases p with
      | nil=>rw [da] at hl; cases hl; exact ⟨rfl,rfl⟩
      | cons s p =>
       obtain ⟨t',k',rows',c',he,h3,h4⟩:=ei hl;cases he;have:=we h3;simp at this
  obtain ⟨rfl,rfl⟩:=hp;exact ⟨hk,by simp,.inl ⟨rfl,rfl⟩⟩
 | cell s t t' ti xs hs hc hti hag hsz ho =>
  have hsv:=h.slot s;rw [hs] at hsv;obtain ⟨g1,g2⟩:=Nu h hc ho;obtain ⟨i,u,z,hi,hu,hz,hsz2,hby,hzz,hzs,hz1,hag2,hel,hfi,hone,hpos⟩:=bl hti;obtain ⟨b,cur,k1,k2,k3,k4⟩:=h.mem.root _ _ _ hc
  have hr:(kn a.tmps (.cell s t)).run P w = .ok (.agg cur) w:=by
   have he:a.tmps.getD s undef = .pointer (some ⟨b,0,none⟩):=hsv.2.trans k1;show ((do loadVar t (← asAddr (a.tmps.getD s undef)):Sem Value)).run P w = _;rw [he];simp only [asAddr,Sem.run_bind,Sem.run_pure,Result.andThen_ok]
   have:=mi (P:=P) (w:=w) (b:=b) (off:=0) (vs:=cur) hu (by rw [hag2,hag]) hi (by omega) fun j v hj=>by
    rw [Nat.zero_add,cell_of_row w b j cur t' (0,0) k2]; exact hj
   unfold Instr.loadAt Instr.sureAddr at this;simpa using this
  refine ⟨_,val (s,0),hr,⟨xs,cur,rfl,rfl,rfl,k3,fun j hj=>k4 j hj⟩,fun xs' p c hx hl=>?_,fun b p xs' t k rows n cap o hx hl hv=>?_⟩
  ·cases hx; exact g1 p c hl
  ·cases hx; exact g2 b p t k rows n cap o hl hv
 | cellp s t t' ti v hs hc hti hag =>
  have hsv:=h.slot s;rw [hs] at hsv;obtain ⟨i,u,z,hi,hu,hz,hsz2,hby,hzz,hzs,hz1,hag2,hel,hfi,hone,hpos⟩:=bl hti;obtain ⟨b,cur,k1,k2,k3,k4⟩:=h.mem.root _ _ _ hc;have hv:val (s,0) [(0,0)] = v:=h.mem.node _ _ [(0,0)] (.p v) hc (by rw [dv]; rfl)
  have hr:(kn a.tmps (.cell s t)).run P w = .ok v w:=by
   have he:a.tmps.getD s undef = .pointer (some ⟨b,0,none⟩):=hsv.2.trans k1;show ((do loadVar t (← asAddr (a.tmps.getD s undef)):Sem Value)).run P w = _;rw [he];simp only [asAddr,Sem.run_bind,Sem.run_pure,Result.andThen_ok]
   have:=iz (P:=P) (w:=w) (b:=b) (off:=0) (v:=v) hu (by rw [hag2,hag]) (by
    rw [cell_of_row w b 0 cur t' (0,0) k2,k4 0 (by simp),hv])
   unfold Instr.loadAt Instr.sureAddr at this;simpa using this
  exact ⟨v,fun _=>undef,hr,.p v,fun xs p c hx=>(by cases hx),fun b p xs t k rows n cap o hx=>(by cases hx)⟩
theorem I5:∀ (vs:List ResultVar) (us:List Value) (w:World),us.length = vs.length → (∀ (i:Nat) (v:ResultVar),vs[i]? = some v → ∃ u,us[i]? = some u ∧ (kn a.tmps v).run P w = .ok u w) → (vs.mapM (kn a.tmps)).run P w = .ok us w
 | [],us,w,h,_=>by
  have:us = []:=List.eq_nil_of_length_eq_zero h;subst this; rfl
 | v :: vs,us,w,h,hr=>by
  obtain ⟨u,h1,h2⟩:=hr 0 v rfl
  cases us with
  | nil=>cases h1
  | cons u' us =>
   simp at h1;subst h1;rw [List.mapM_cons,Sem.run_bind,h2];simp only [Result.andThen_ok,Sem.run_bind]
   rw [I5 vs us w (by simpa using h) fun i v hv=>by
    obtain ⟨u2,h3,h4⟩:=hr (i + 1) v (by simpa using hv)
    exact ⟨u2,by simpa using h3,h4⟩]
   rfl
theorem Nh {fn:Func} {r:Res} {S':Nat → Prop} (h:StV w0 e a w val S) (hS':∀ b,S' b → S b) (hlen:fn.results.toList.length = r.length)
 (hone:∀ (i:Nat) (rv:RV),r[i]? = some rv → ∃ v,fn.results.toList[i]? = some v ∧ ∃ u va,(kn a.tmps v).run P w = .ok u w ∧ Dn w S' e.con val (cy v) rv u va) (hnd:(fn.results.toList.map cy).Nodup) :
 ∃ v val',(results fn a.tmps).run P w = .ok v w ∧ MemOk w (resCon r) val' S' ∧ (∀ b key p,OwnB (resCon r) val' b key p → ∃ v,v ∈ fn.results.toList ∧ OwnB e.con val b (cy v,0) p) ∧ SV { gr with con:=resCon r } w val' S' 0 (resAV r) v:=by
 have hex:∀ i:Nat,∃ x:Value × (aj → Value),∀ (rv:RV) (v:ResultVar),r[i]? = some rv → fn.results.toList[i]? = some v → (kn a.tmps v).run P w = .ok x.1 w ∧ Dn w S' e.con val (cy v) rv x.1 x.2:=fun i=>by
  cases hri:r[i]? with
  | none=>exact ⟨(undef,fun _=>undef),fun rv v hx=>by cases hx⟩
  | some rv =>
   obtain ⟨v,hv,u,va,h1,h2⟩:=hone i rv hri;refine ⟨(u,va),fun rv' v' hx hv'=>?_⟩;cases hx;rw [hv] at hv';cases hv';exact ⟨h1,h2⟩
 obtain ⟨f,hf⟩:=Classical.axiomOfChoice hex;obtain ⟨us,hus⟩:∃ us:List Value,us = (List.range r.length).map fun i=>(f i).1:=⟨_,rfl⟩;have husl:us.length = r.length:=by rw [hus]; simp
 have husi:∀ i,i < r.length → us[i]? = some (f i).1:=fun i hi=>by rw [hus]; simp [hi]
 have hrun:(results fn a.tmps).run P w = .ok (if us.length = 1 then us.headD undef else .tuple us.toArray) w:=by
  have hm:=I5 (P:=P) (a:=a) fn.results.toList us w (by omega) fun i v hv=>by
   have hi:i < r.length:=by have:=(List.getElem?_eq_some_iff.1 hv).1; omega
   exact ⟨_,husi i hi,(hf i r[i] v (List.getElem?_eq_getElem hi) hv).1⟩
  have hm':(fn.results.mapM (kn a.tmps)).run P w = .ok us.toArray w:=by
   rw [Array.mapM_eq_mapM_toList,Sem.run_map,hm]; rfl
  show ((do let vs ← fn.results.mapM (kn a.tmps); pure (if h:vs.size = 1 then vs[0] else .tuple vs):Sem Value)).run P w = _;rw [Sem.run_bind,hm'];simp only [Result.andThen_ok,Sem.run_pure]
  by_cases h1:us.length = 1
  ·obtain ⟨u,rfl⟩:=List.length_eq_one_iff.1 h1;simp
  ·simp [h1]
 have hcon:∀ key cn,resCon r key = some cn → ∃ i rv xs,r[i]? = some rv ∧ rv.con = some ⟨none,xs⟩ ∧ cn = ⟨none,xs⟩ ∧ ((r.length = 1 ∧ key = (0,0) ∧ i = 0) ∨ (r.length ≠ 1 ∧ key = (0,i + 1))):=fun key cn hk=>by
  have hx:∀ rv:RV,rv.con = some cn → ∃ xs,rv.con = some ⟨none,xs⟩ ∧ cn = ⟨none,xs⟩:=fun rv hh=>by
   cases rv with
   | c x=>cases hh
   | agg x=>cases hh
   | own ag xs=>cases hh; exact ⟨xs,rfl,rfl⟩
  obtain ⟨k1,k2⟩:=key;unfold resCon at hk;split at hk
  ·rename_i h0
   simp only at h0;subst h0;split at hk
   ·rename_i x
    split at hk
    ·rename_i h2
     simp only at h2;subst h2;obtain ⟨xs,g1,g2⟩:=hx x hk;exact ⟨0,x,xs,rfl,g1,g2,.inl ⟨rfl,rfl,rfl⟩⟩
    ·cases hk
   ·rename_i hne
    cases k2 with
    | zero=>cases hk
    | succ i =>
     simp only at hk
     cases hri:r[i]? with
     | none=>rw [hri] at hk; cases hk
     | some rv =>
      rw [hri] at hk;obtain ⟨xs,g1,g2⟩:=hx rv hk;exact ⟨i,rv,xs,hri,g1,g2,.inr ⟨fun hl=>by obtain ⟨y,hy⟩:=List.length_eq_one_iff.1 hl; exact hne y hy,rfl⟩⟩
  ·cases hk
 obtain ⟨val',hval⟩:∃ val':Val,val' = fun key=>if r.length = 1 then (f 0).2 else (f (key.2 - 1)).2:=⟨_,rfl⟩
 have hvi:∀ key i,((r.length = 1 ∧ key = ((0,0):bh) ∧ i = 0) ∨ (r.length ≠ 1 ∧ key = (0,i + 1))) → val' key = (f i).2:=fun key i hh=>by
  rw [hval]
  rcases hh with ⟨h1,rfl,rfl⟩ | ⟨h1,rfl⟩
  ·simp only [if_pos h1]
  ·simp only [if_neg h1,Nat.add_sub_cancel]
 have hslot:∀ (i:Nat) (rv:RV),r[i]? = some rv → ∃ v,fn.results.toList[i]? = some v ∧ Dn w S' e.con val (cy v) rv (f i).1 (f i).2:=fun i rv hi=>by
  obtain ⟨v,hv,-⟩:=hone i rv hi;exact ⟨v,hv,(hf i rv v hi hv).2⟩
 have hown:∀ b key p,OwnB (resCon r) val' b key p → ∃ i v,fn.results.toList[i]? = some v ∧ OwnB e.con val b (cy v,0) p ∧ ((r.length = 1 ∧ key = ((0,0):bh) ∧ i = 0) ∨ (r.length ≠ 1 ∧ key = (0,i + 1))):=fun b key p ho=>by
  obtain ⟨cn,hcn⟩:=ho.some;obtain ⟨i,rv,xs,g1,g2,rfl,g3⟩:=hcon key cn hcn;obtain ⟨v,hv,h1,h2,h3⟩:=hslot i rv g1;refine ⟨i,v,hv,?_,g3⟩
  rcases ho with ⟨-,⟨t,xs',k1⟩,-⟩ | ⟨cn2,t,k,rows,n,cap,k1,k2,o,k3⟩
  ·rw [hcn] at k1; cases k1
  ·rw [hcn] at k1;cases k1;rw [hvi key i g3] at k3;exact h3 b p xs t k rows n cap o g2 k2 k3
 refine ⟨_,val',hrun,⟨fun key cn p c h1 h2=>?_,fun key t xs h1=>?_,fun b key p key' p' h1 h2=>?_,fun b hb=>⟨(h.mem.sep b (hS' b hb)).1,fun key p ho=>?_⟩⟩,fun b key p ho=>?_,?_⟩
 ·obtain ⟨i,rv,xs,g1,g2,rfl,g3⟩:=hcon key cn h1;obtain ⟨v,hv,k1,k2,k3⟩:=hslot i rv g1;rw [hvi key i g3];exact k2 xs p c g2 h2
 ·obtain ⟨i,rv,xs',g1,g2,g4,g3⟩:=hcon key _ h1;cases g4
 ·obtain ⟨i,v,k1,k2,k3⟩:=hown b key p h1;obtain ⟨i',v',k4,k5,k6⟩:=hown b key' p' h2;obtain ⟨g1,g2⟩:=h.mem.inj b _ _ _ _ k2 k5;refine ⟨?_,g2⟩;have hss:cy v = cy v':=by simpa using g1
  have hii:i = i':=by
   have a1:(fn.results.toList.map cy)[i]? = some (cy v):=by simp [k1]
   have a2:(fn.results.toList.map cy)[i']? = some (cy v):=by simp [k4,hss]
   have l1:=(List.getElem?_eq_some_iff.1 a1).1;have l2:=(List.getElem?_eq_some_iff.1 a2).1;rw [List.getElem?_eq_getElem l1] at a1;rw [List.getElem?_eq_getElem l2] at a2;have he:=Option.some.inj (a1.trans a2.symm);have hpw:=List.pairwise_iff_getElem.1 hnd
   rcases Nat.lt_trichotomy i i' with h3 | h3 | h3
   ·exact absurd he (hpw i i' l1 l2 h3)
   ·exact h3
   ·exact absurd he.symm (hpw i' i l2 l1 h3)
  subst hii
  rcases k3 with ⟨n1,rfl,-⟩ | ⟨n1,rfl⟩ <;> rcases k6 with ⟨n2,rfl,-⟩ | ⟨n2,rfl⟩
  ·rfl
  ·exact absurd n1 n2
  ·exact absurd n2 n1
  ·rfl
 ·obtain ⟨i,v,k1,k2,-⟩:=hown b key p ho;exact (h.mem.sep b (hS' b hb)).2 _ _ k2
 ·obtain ⟨i,v,k1,k2,-⟩:=hown b key p ho;exact ⟨v,List.mem_of_getElem? k1,k2⟩
 ·by_cases h1:r.length = 1
  ·obtain ⟨x,rfl⟩:=List.length_eq_one_iff.1 h1;obtain ⟨v,hv,k1,-⟩:=hslot 0 x rfl
   have hu:(if us.length = 1 then us.headD undef else .tuple us.toArray) = (f 0).1:=by
    rw [if_pos (by omega)];have:=husi 0 (by simp)
    cases us with
    | nil=>cases this
    | cons u us=>simp at this; simp [this]
   rw [hu];have hk:=hvi (0,0) 0 (.inl ⟨rfl,rfl,rfl⟩);have key:TVok w S' (resCon [x] (0,0)) (val' (0,0)) x.tv (f 0).1:=by rw [hk]; exact k1
   show SV _ _ _ _ 0 x.tv.av _
   cases hx:x.tv with
   | c y=>rw [hx] at key; exact key
   | agg ys=>rw [hx] at key; exact key
   | own ag n=>rw [hx] at key; exact key
  ·have hav:resAV r = .tup (r.map RV.tv):=by
    unfold resAV;split
    ·rename_i x; exact absurd rfl h1
    ·rfl
   rw [hav,if_neg (by omega)];refine ⟨us.toArray,rfl,by simp [husl],fun i t hi=>?_⟩;simp only [List.getElem?_map,Option.map_eq_some_iff] at hi;obtain ⟨rv,g1,rfl⟩:=hi;have hil:i < r.length:=(List.getElem?_eq_some_iff.1 g1).1;obtain ⟨v,hv,k1,-⟩:=hslot i rv g1;refine ⟨(f i).1,by simpa using husi i hil,.inr ?_⟩;have hk:=hvi (0,i + 1) i (.inr ⟨h1,rfl⟩)
   have hrc:resCon r (0,i + 1) = rv.con:=by
    unfold resCon;rw [if_pos rfl];split
    ·rename_i x; exact absurd rfl h1
    ·simp [g1]
   show TVok w _ (resCon r (0,i + 1)) (val' (0,i + 1)) rv.tv _;rw [hk,hrc]; exact k1
theorem Zi {w1:World} {S0:Nat → Prop} {fn:Func} {r:Res} (h:StV (Base.of w1 S0) e a w val S) (hr:REs P e fn.results.toList r) (hnd:(fn.results.toList.map cy).Nodup):∃ v val' S',(results fn a.tmps).run P w = .ok v w ∧ RetOk w1 w r v val' S':=by
 obtain ⟨v,val',h1,h2,h3,h4⟩:=Nh (S':=fun _=>False) h (fun _ hh=>hh.elim) hr.length (fun i rv hi=>by
  obtain ⟨v,hv,hre⟩:=hr.at_ i rv hi;obtain ⟨u,va,g1,g2⟩:=Vu h hre
  exact ⟨v,hv,u,va,g1,g2⟩) hnd
 exact ⟨v,val',fun _=>False,h1,h.frm.to_below,h2,fun b key p ho=>by
  obtain ⟨v,-,g⟩:=h3 b key p ho
  exact Base.of_mine (h.low _ _ _ g),fun _ hh=>hh.elim,h4⟩
inductive RA (P:Program) (e:Env):ResultVar → RV → Prop
 | re (v:ResultVar) (r:RV):RE P e v r → RA P e v r
 | c (s:Nat) (x:C):e.s s = .c x → RA P e (.tmp s) (.c x)
 | agg (s:Nat) (xs:List C):e.s s = .agg xs → RA P e (.tmp s) (.agg xs)
 | cell (s:Nat) (t t':TypeId) (ti:TI) (xs:List C):e.s s = .box → e.con (s,0) = some ⟨some t',xs⟩ → bp P t = some ti → ti.agg = true → ti.size = xs.length → xs.all C.freeB = true → RA P e (.cell s t) (.agg xs)
 | cell1 (s:Nat) (t t':TypeId) (ti:TI) (x:C):e.s s = .box → e.con (s,0) = some ⟨some t',[x]⟩ → bp P t = some ti → ti.agg = false → x.freeB = true → RA P e (.cell s t) (.c x)
 | owna (s:Nat) (n:Nat) (xs:List C):e.s s = .own true n → e.con (s,0) = some ⟨none,xs⟩ → xs.all C.freeB = true → RA P e (.tmp s) (.agg xs)
 | own1 (s:Nat) (x:C):e.s s = .own false 1 → e.con (s,0) = some ⟨none,[x]⟩ → x.freeB = true → RA P e (.tmp s) (.c x)
inductive RAs (P:Program) (e:Env):List ResultVar → List RV → Prop
 | nil:RAs P e [] []
 | cons (v:ResultVar) (vs:List ResultVar) (r:RV) (rs:List RV):RA P e v r → RAs P e vs rs → RAs P e (v :: vs) (r :: rs)
theorem RAs.length {vs:List ResultVar} {rs:List RV} (h:RAs P e vs rs):vs.length = rs.length:=by
 induction h with
 | nil=>rfl
 | cons v vs r rs h1 h2 ih=>simp [ih]
theorem RAs.at_ {vs:List ResultVar} {rs:List RV} (h:RAs P e vs rs):∀ (i:Nat) (r:RV),rs[i]? = some r → ∃ v,vs[i]? = some v ∧ RA P e v r:=by
 induction h with
 | nil=>intro i r h; simp at h
 | cons v vs r rs h1 h2 ih =>
  intro i r' hi
  cases i with
  | zero=>simp at hi; subst hi; exact ⟨v,rfl,h1⟩
  | succ i=>simp at hi; obtain ⟨v',h3,h4⟩:=ih i r' hi; exact ⟨v',by simpa using h3,h4⟩
theorem ROne.weak {s:Nat} {rv:RV} {u:Value} {va:aj → Value} (h:ROne w e.con val s rv u va):Dn w S e.con val s rv u va :=
 ⟨h.1.keep (fun _ hh=>hh.elim) fun _ _ _=>rfl,fun xs p c h1 h2=>(h.2.1 xs p c h1 h2).keep (fun _ hh=>hh.elim) (fun _ _ _=>rfl) fun _ _ _ _ _ _ _ _ _ _=>rfl,h.2.2⟩
theorem ul {va:aj → Value} {p:aj} {c:C} (h:NodeOk w S va p c) (hf:c.freeB = true):RO w S c (va p):=by
 cases c with
 | p v=>have:va p = v:=h; rw [this]; exact .p v
 | hole=>exact .hole _
 | sl own t k rows=>cases own with | true=>cases hf | false=>exact h
theorem jbj (h:StV w0 e a w val S) {v:ResultVar} {r:RV} (hr:RA P e v r):∃ u va,(kn a.tmps v).run P w = .ok u w ∧ Dn w S e.con val (cy v) r u va:=by
 have none_:∀ {r:RV} {s:Nat} {u:Value},r.con = none → TVok w S r.con (fun _=>undef) r.tv u → Dn w S e.con val s r u fun _=>undef:=fun hn ht=>⟨ht,fun xs p c hx=>(by rw [hn] at hx; cases hx),fun b p xs t k rows n cap o hx=>(by rw [hn] at hx; cases hx)⟩
 have agg:∀ {s:Nat} {bx:Option TypeId} {xs:List C} {vs:Array Value},e.con (s,0) = some ⟨bx,xs⟩ → xs.all C.freeB = true → vs.size = xs.length → (∀ i,i < xs.length → vs[i]? = some (val (s,0) [(0,i)])) → ROs w S xs vs:=fun hc hf hs hv=>⟨hs,fun i x hi=>by
  have hl:=(List.getElem?_eq_some_iff.1 hi).1
  exact ⟨_,hv i hl,ul (h.mem.node _ _ [(0,i)] x hc (by rw [dv]; exact hi)) (List.all_eq_true.1 hf x (List.mem_of_getElem? hi))⟩⟩
 cases hr with
 | re v r hre =>
  obtain ⟨u,va,h1,h2⟩:=Vu h hre;exact ⟨u,va,h1,h2.weak⟩
 | c s x hs =>
  have hsv:=h.slot s;rw [hs] at hsv;exact ⟨_,fun _=>undef,rfl,none_ rfl hsv⟩
 | agg s xs hs =>
  have hsv:=h.slot s;rw [hs] at hsv;exact ⟨_,fun _=>undef,rfl,none_ rfl hsv⟩
 | cell s t t' ti xs hs hc hti hag hsz hf =>
  have hsv:=h.slot s;rw [hs] at hsv;obtain ⟨i,u,z,hi,hu,hz,hsz2,hby,hzz,hzs,hz1,hag2,hel,hfi,hone,hpos⟩:=bl hti;obtain ⟨b,cur,k1,k2,k3,k4⟩:=h.mem.root _ _ _ hc
  have hr:(kn a.tmps (.cell s t)).run P w = .ok (.agg cur) w:=by
   have he:a.tmps.getD s undef = .pointer (some ⟨b,0,none⟩):=hsv.2.trans k1;show ((do loadVar t (← asAddr (a.tmps.getD s undef)):Sem Value)).run P w = _;rw [he];simp only [asAddr,Sem.run_bind,Sem.run_pure,Result.andThen_ok]
   have:=mi (P:=P) (w:=w) (b:=b) (off:=0) (vs:=cur) hu (by rw [hag2,hag]) hi (by omega) fun j v hj=>by
    rw [Nat.zero_add,cell_of_row w b j cur t' (0,0) k2]; exact hj
   unfold Instr.loadAt Instr.sureAddr at this;simpa using this
  exact ⟨_,fun _=>undef,hr,none_ rfl ⟨cur,rfl,agg hc hf k3 k4⟩⟩
 | cell1 s t t' ti x hs hc hti hag hf =>
  have hsv:=h.slot s;rw [hs] at hsv;obtain ⟨i,u,z,hi,hu,hz,hsz2,hby,hzz,hzs,hz1,hag2,hel,hfi,hone,hpos⟩:=bl hti;obtain ⟨b,cur,k1,k2,k3,k4⟩:=h.mem.root _ _ _ hc;have hro:RO w S x (val (s,0) [(0,0)]):=ul (h.mem.node _ _ [(0,0)] x hc (by rw [dv]; rfl)) hf
  have hr:(kn a.tmps (.cell s t)).run P w = .ok (val (s,0) [(0,0)]) w:=by
   have he:a.tmps.getD s undef = .pointer (some ⟨b,0,none⟩):=hsv.2.trans k1;show ((do loadVar t (← asAddr (a.tmps.getD s undef)):Sem Value)).run P w = _;rw [he];simp only [asAddr,Sem.run_bind,Sem.run_pure,Result.andThen_ok]
   have:=iz (P:=P) (w:=w) (b:=b) (off:=0) (v:=val (s,0) [(0,0)]) hu (by rw [hag2,hag]) (by
    rw [cell_of_row w b 0 cur t' (0,0) k2,k4 0 (by simp)])
   unfold Instr.loadAt Instr.sureAddr at this;simpa using this
  exact ⟨_,fun _=>undef,hr,none_ rfl hro⟩
 | owna s n xs hs hc hf =>
  have hsv:=h.slot s;rw [hs] at hsv;obtain ⟨xs2,vs,h1,h2,h3,h4,h5⟩:=hsv;rw [hc] at h1;cases h1;exact ⟨_,fun _=>undef,rfl,none_ rfl ⟨vs,h3,agg hc hf (by omega) fun i hi=>h5 i (by omega)⟩⟩
 | own1 s x hs hc hf =>
  have hsv:=h.slot s;rw [hs] at hsv;obtain ⟨-,-,h3⟩:=hsv;refine ⟨_,fun _=>undef,rfl,none_ rfl ?_⟩;show RO w S x (a.tmps.getD s undef);rw [h3];exact ul (h.mem.node _ _ [(0,0)] x hc (by rw [dv]; rfl)) hf
theorem Ng {fn:Func} {r:Res} (h:StV w0 e a w val S) (hr:RAs P e fn.results.toList r) (hnd:(fn.results.toList.map cy).Nodup) :
 ∃ v val',(results fn a.tmps).run P w = .ok v w ∧ MemOk w (resCon r) val' S ∧ (∀ b key p,OwnB (resCon r) val' b key p → ∃ v,v ∈ fn.results.toList ∧ OwnB e.con val b (cy v,0) p) ∧ SV { gr with con:=resCon r } w val' S 0 (resAV r) v :=
 Nh h (fun _ hh=>hh) hr.length (fun i rv hi=>by
  obtain ⟨v,hv,hre⟩:=hr.at_ i rv hi;obtain ⟨u,va,g1,g2⟩:=jbj h hre
  exact ⟨v,hv,u,va,g1,g2⟩) hnd
def jc6 (P:Program) (fn:Func) (Post:Res → Prop):Exit → Env → Prop
 | .normal,e | .ret,e=>∃ r,RAs P e fn.results.toList r ∧ (fn.results.toList.map cy).Nodup ∧ Post r
 | _,_=>False
def Vx (P:Program) (fn:Func) (t:TypeId) (n:Nat) (Post:Res → Prop):Exit → Env → Prop
 | .normal,e | .ret,e=>∃ r xs,RAs P e fn.results.toList r ∧ (fn.results.toList.map cy).Nodup ∧ (fn.results.toList.all fun v=>decide (cy v < fn.ntmps)) = true ∧ e.n = fn.ntmps ∧ e.con (fn.ntmps,0) = some ⟨some t,xs⟩ ∧ xs.length = n ∧ Post (.own true xs :: r)
 | _,_=>False
theorem aw {f:FuncId} {fn:Func} {c:Code} {as:List Arg} {Post:Res → Prop} (hf:P.funcs[f]? = some fn) (hb:fn.body = some c) (hn:as.length ≤ fn.ntmps) (h:∀ w0,DW P w0 c (Fin P fn Post) (bw fn.ntmps as)):DCalls P f as Post:=by
 intro w vs hl hv
 refine calls_of_wp hf hb (wp_mono (h (Base.of w fun b=>b < w.heap.size) _ w (H8 hn hl (fun _ hb=>hb) fun i x hx=>by
  obtain ⟨u,h1,h2⟩:=hv i x hx
  exact ⟨u,h1,X3 h2⟩)) ?_)
 rintro ex a' w' ⟨e',h1,val,S,h2⟩
 have key:(∃ r,REs P e' fn.results.toList r ∧ (fn.results.toList.map cy).Nodup ∧ Post r) → a'.defers = [] ∧ ∃ v,(results fn a'.tmps).run P w' = .ok v w' ∧ ∃ r v' val S,Post r ∧ Ending.returned v = .returned v' ∧ RetOk w w' r v' val S:=by
  rintro ⟨r,h3,h4,h5⟩;obtain ⟨v,val',S',h6,h7⟩:=Zi h2 h3 h4;exact ⟨h2.defers,v,h6,r,v,val',S',h5,rfl,h7⟩
 cases ex with
 | normal=>exact key h1
 | ret=>exact key h1
 | exit id=>exact h1.elim
 | goto l=>exact h1.elim
 | panic c=>exact h1.elim
 | outgrown=>exact h1.elim
theorem tb {f:FuncId} {fn:Func} {c:Code} {as:List Arg} {Post:Res → Prop} (hio:(as[0]?).map Arg.isIo ≠ some true) (hf:P.funcs[f]? = some fn) (hb:fn.body = some c) (hn:as.length ≤ fn.ntmps) (h:∀ w0,DW P w0 c (jc6 P fn Post) (bw fn.ntmps as)):dr P f as Post:=by
 rw [qc hio];intro w vs S0 hl hS0 hv;refine calls_of_wp hf hb (wp_mono (h (Base.of w S0) _ w (H8 hn hl hS0 hv)) ?_);rintro ex a' w' ⟨e',h1,val,S,h2⟩
 have key:(∃ r,RAs P e' fn.results.toList r ∧ (fn.results.toList.map cy).Nodup ∧ Post r) → a'.defers = [] ∧ ∃ v,(results fn a'.tmps).run P w' = .ok v w' ∧ ∃ r v' val S,Post r ∧ Ending.returned v = .returned v' ∧ Mq w w' S0 r v' val S:=by
  rintro ⟨r,h3,h4,h5⟩;obtain ⟨v,val',h6,h7,h8,h9⟩:=Ng h2 h3 h4;refine ⟨h2.defers,v,h6,r,v,val',S,h5,rfl,h2.frm.to_below,h7,fun b key p ho=>?_,fun b hb=>?_,h9⟩
  ·obtain ⟨v,-,g⟩:=h8 b key p ho;exact Base.of_mine (h2.low _ _ _ g)
  ·exact (h2.sS b hb).imp Base.of_mine id
 cases ex with
 | normal=>exact key h1
 | ret=>exact key h1
 | exit id=>exact h1.elim
 | goto l=>exact h1.elim
 | panic c=>exact h1.elim
 | outgrown=>exact h1.elim
theorem Ul {w w':World} {a':Act} {e':Env} {G S0:Nat → Prop} {p0:Value} {fn:Func} {t:TypeId} {n:Nat} {Post:Res → Prop} (h2:StV ⟨w,G,fun s=>if s = fn.ntmps then p0 else undef,S0⟩ e' a' w' val S)
 (h1:∃ r xs',RAs P e' fn.results.toList r ∧ (fn.results.toList.map cy).Nodup ∧ (fn.results.toList.all fun v=>decide (cy v < fn.ntmps)) = true ∧ e'.n = fn.ntmps ∧ e'.con (fn.ntmps,0) = some ⟨some t,xs'⟩ ∧ xs'.length = n ∧ Post (.own true xs' :: r)) :
 a'.defers = [] ∧ ∃ v,(results fn a'.tmps).run P w' = .ok v w' ∧ ∃ r xs' v' val S,xs'.length = n ∧ Post (.own true xs' :: r) ∧ Ending.returned v = .returned v' ∧ Dl w w' G S0 t xs' p0 r v' val S:=by
 obtain ⟨r,xs',h3,h4,h5,hn',hc,hlen,hP⟩:=h1;obtain ⟨v,val',h6,h7,h8,h9⟩:=Ng h2 h3 h4
 obtain ⟨nv,hnv⟩:∃ nv:Val,nv = fun key=>if key = (1,0) then val (fn.ntmps,0) else val' key:=⟨_,rfl⟩
 have n1:nv (1,0) = val (fn.ntmps,0):=by rw [hnv]; simp
 have n0:∀ key:bh,key ≠ (1,0) → nv key = val' key:=fun key hk=>by rw [hnv]; simp only [if_neg hk]
 have c1:dw t xs' r (1,0) = some ⟨some t,xs'⟩:=by unfold dw; rw [if_pos rfl]
 have c0:∀ key:bh,key ≠ (1,0) → dw t xs' r key = resCon r key:=fun key hk=>by unfold dw; rw [if_neg hk]
 have own:∀ b key p,OwnB (dw t xs' r) nv b key p → (key = (1,0) ∧ OwnB e'.con val b (fn.ntmps,0) p) ∨ (key ≠ (1,0) ∧ OwnB (resCon r) val' b key p):=fun b key p ho=>by
  by_cases hk:key = (1,0)
  ·refine .inl ⟨hk,?_⟩;rw [hk] at ho
   rcases ho with ⟨k1,⟨t',zs,k2⟩,k3⟩ | ⟨cn,t',k,rows,n,cap,k1,k2,k3⟩
   ·rw [n1] at k3; exact .inl ⟨k1,⟨t,xs',hc⟩,k3⟩
   ·rw [c1] at k1; cases k1; rw [n1] at k3; exact .inr ⟨_,t',k,rows,n,cap,hc,k2,k3⟩
  ·exact .inr ⟨hk,ho.con (c0 key hk).symm (n0 key hk).symm⟩
 have apart:∀ b key p p',OwnB (resCon r) val' b key p → OwnB e'.con val b (fn.ntmps,0) p' → False:=fun b key p p' g1 g2=>by
  obtain ⟨v,hv,g3⟩:=h8 b key p g1;have:=(h2.mem.inj _ _ _ _ _ g3 g2).1;have hlt:=List.all_eq_true.1 h5 v hv;simp only [Prod.mk.injEq,and_true] at this;rw [this] at hlt;simp at hlt
 refine ⟨h2.defers,v,h6,r,xs',v,nv,S,hlen,hP,rfl,⟨h2.frm.os,h2.frm.tape,h2.frm.output,h2.frm.size,h2.frm.block⟩,⟨fun key cn p c g1 g2=>?_,fun key t' zs g1=>?_,fun b key p key' p' g1 g2=>?_,fun b hb=>⟨(h2.mem.sep b hb).1,fun key p ho=>?_⟩⟩,?_,fun b key p ho=>?_,fun b hb=>h2.sS b hb,?_⟩
 ·by_cases hk:key = (1,0)
  ·subst hk;rw [c1] at g1;cases g1;rw [n1]; exact h2.mem.node _ _ p c hc g2
  ·rw [c0 key hk] at g1;rw [n0 key hk]; exact h7.node _ _ p c g1 g2
 ·by_cases hk:key = (1,0)
  ·subst hk;rw [c1] at g1;cases g1;rw [n1]; exact h2.mem.root _ _ _ hc
  ·rw [c0 key hk] at g1;rw [n0 key hk]; exact h7.root _ _ _ g1
 ·rcases own b key p g1 with ⟨rfl,g3⟩ | ⟨k1,g3⟩ <;> rcases own b key' p' g2 with ⟨rfl,g4⟩ | ⟨k2,g4⟩
  ·exact ⟨rfl,(h2.mem.inj _ _ _ _ _ g3 g4).2⟩
  ·exact (apart _ _ _ _ g4 g3).elim
  ·exact (apart _ _ _ _ g3 g4).elim
  ·exact h7.inj _ _ _ _ _ g3 g4
 ·rcases own b key p ho with ⟨rfl,g3⟩ | ⟨k1,g3⟩
  ·exact (h2.mem.sep b hb).2 _ _ g3
  ·exact (h7.sep b hb).2 _ _ g3
 ·rw [n1,h2.rts fn.ntmps (by omega)]; simp
 ·rcases own b key p ho with ⟨rfl,g3⟩ | ⟨k1,g3⟩
  ·exact h2.low _ _ _ g3
  ·obtain ⟨v,-,g⟩:=h8 b key p g3;exact h2.low _ _ _ g
 ·have m0:∀ i,nv (0,i) = val' (0,i):=fun i=>n0 (0,i) (by simp);have hsv:=h9
  generalize hrr:resAV r = av at hsv ⊢
  have hav:(∃ tv:TV,av = tv.av) ∨ ∃ ts,av = .tup ts:=by
   rw [← hrr];unfold resAV;split
   ·exact .inl ⟨_,rfl⟩
   ·exact .inr ⟨_,rfl⟩
  rcases hav with ⟨tv,rfl⟩ | ⟨ts,rfl⟩
  ·cases tv with
   | c y=>exact hsv
   | agg ys=>exact hsv
   | own ag n =>
    show TVok w' S (resCon r (0,0)) (nv (0,0)) (.own ag n) v;rw [m0]; exact hsv
  ·obtain ⟨vs,g1,g2,g3⟩:=hsv;refine ⟨vs,g1,g2,fun i tv hi=>?_⟩;obtain ⟨u,g4,g5⟩:=g3 i tv hi;exact ⟨u,g4,by rw [m0]; exact g5⟩
theorem fz {f:FuncId} {fn:Func} {c:Code} {t:TypeId} {xs:List C} {as:List Arg} {Post:Res → Prop} (hf:P.funcs[f]? = some fn) (hb:fn.body = some c) (hn:as.length + 1 ≤ fn.ntmps) (h:∀ w0,DW P w0 c (Vx P fn t xs.length Post) (jt fn.ntmps t xs as)):dr P f (.io t xs :: as) Post:=by
 intro w vs val0 S0 hl hm hp0 hv;refine calls_of_wp hf hb (wp_mono (h _ _ w (Sf hn hl hm hp0 hv)) ?_);rintro ex a' w' ⟨e',h1,val,S,h2⟩;have key:=fun h=>Ul (P:=P) (Post:=Post) (n:=xs.length) (t:=t) (fn:=fn) h2 h
 cases ex with
 | normal=>exact key h1
 | ret=>exact key h1
 | exit id=>exact h1.elim
 | goto l=>exact h1.elim
 | panic c=>exact h1.elim
 | outgrown=>exact h1.elim
theorem Lw {f:FuncId} {fn:Func} {c:Code} {t:TypeId} {xs:List C} {ag:Bool} {cs:List C} {as:List Arg} {Post:Res → Prop} (hf:P.funcs[f]? = some fn) (hb:fn.body = some c) (hn:as.length + 2 ≤ fn.ntmps) (h:∀ w0,DW P w0 c (Vx P fn t xs.length Post) (uy fn.ntmps t xs ag cs as)):tc P f t xs ag cs as Post:=by
 intro w vs val0 S0 hl hm hp0 hu hv;refine calls_of_wp hf hb (wp_mono (h _ _ w (Sg hn hl hm hp0 hu hv)) ?_);rintro ex a' w' ⟨e',h1,val,S,h2⟩;have key:=fun h=>Ul (P:=P) (Post:=Post) (n:=xs.length) (t:=t) (fn:=fn) h2 h
 cases ex with
 | normal=>exact key h1
 | ret=>exact key h1
 | exit id=>exact h1.elim
 | goto l=>exact h1.elim
 | panic c=>exact h1.elim
 | outgrown=>exact h1.elim
end
end
section
open Go Go.RowKit
theorem jdi (a b c d:Nat):(((a,b):Nat × Nat) == (c,d)) = (a == c && b == d):=rfl
theorem Hc (c i n:Nat):a6 [(c,i)] n = [(c,i + n)]:=c9 [] c i n
theorem jba (a:Nat × Nat) (c i n:Nat):a6 [a,(c,i)] n = [a,(c,i + n)]:=c9 [a] c i n
theorem ja9 (a b:Nat × Nat) (c i n:Nat):a6 [a,b,(c,i)] n = [a,b,(c,i + n)]:=c9 [a,b] c i n
def slotView (s g:Nat):AV → AV
 | .own ag n=>.ref s g [(0,0)] ag n
 | .box=>.ptr s g [(0,0)] 0
 | av=>av
def C.frz:C → C
 | .sl _ t k rows=>.sl false t k rows
 | c=>c
theorem Z6 (o:Bool) (t:TypeId) (k:Nat) (rows:List (List C)):(C.sl o t k rows).frz = .sl false t k rows:=rfl
theorem jcs (v:Value):(C.p v).frz = .p v:=rfl
def Env.frz (e:Env) (r:Nat):Env:={ e with con:=fun key=>if key = (r,0) then (e.con key).map fun cn=>{ cn with xs:=cn.xs.map C.frz } else e.con key }
theorem jct (e:Env) (r:Nat):(e.frz r).n = e.n:=rfl
theorem Ys (e:Env) (r s:Nat):(e.frz r).s s = e.s s:=rfl
theorem Ay (e:Env) (r:Nat) (k:bh):(e.frz r).con k = if k = (r,0) then (e.con k).map (fun cn=>{ cn with xs:=cn.xs.map C.frz }) else e.con k:=rfl
theorem Xj (e:Env) (r s:Nat):(e.frz r).gen s = e.gen s:=rfl
theorem Qu (e:Env) (r s:Nat):(e.frz r).dirty s = e.dirty s:=rfl
section
variable {ct:Cts} {e:Env} {K:Env → Prop}
theorem M5 (e:Env) (s:Nat):e.view s = slotView s (e.gen s) (e.s s):=by unfold Env.view slotView; cases e.s s <;> rfl
theorem Bz {s:Nat} {k:AV → Q}:ah ct none (.slot s k) e K = ah ct none (k (slotView s (e.gen s) (e.s s))) e K:=by simp [ah,M5]
theorem jca {r g:Nat} {p:aj} {k:Option Hd → Q}:ah ct none (.hd r g p k) e K = ah ct none (k (e.hd r g p)) e K:=by simp [ah]
theorem K5 {r g:Nat} {p:aj} {kk:Nat} {k:Option Hd → Q}:ah ct none (.cell r g p kk k) e K = ah ct none (k (e.cell r g p kk)) e K:=by simp [ah]
theorem Nm {r g:Nat} {p:aj} {k:Option C → Q}:ah ct none (.sub r g p k) e K = ah ct none (k (e.sub r g p)) e K:=by simp [ah]
theorem S4 {s i:Nat} {k:Option Con → Q}:ah ct none (.tcon s i k) e K = ah ct none (k (e.con (s,i + 1))) e K:=by simp [ah]
theorem zm {us:List Upd}:ah ct none (.ups us) e K = K (upds us e):=by simp [ah]
theorem Gd {r g:Nat} {k:Option (TypeId × List C) → Q}:ah ct none (.whole r g k) e K = ah ct none (k (e.whole r g)) e K:=by simp [ah]
theorem ye {f:FuncId} {ro:Bool} {args:List Arg} {us:Res → List Upd}:ah ct none (.call f ro args us) e K = ∃ Post,ct f ro args Post ∧ ∀ r,Post r → K (upds (us r) e):=by simp [ah]
theorem Zd (n:Int) (h:-9223372036854775808 ≤ n ∧ n ≤ 9223372036854775807):IntKind.i64.wrap n = n:=by rw [IntKind.wrap_i64]; omega
theorem Li (n:Nat) (sl:List (Nat × AV)) (cn:List (bh × Con)):(mkE n sl cn).n = n:=rfl
theorem jdj (n:Nat) (sl:List (Nat × AV)) (cn:List (bh × Con)) (s:Nat):(mkE n sl cn).s s = (sl.lookup s).getD .dead:=rfl
theorem Zr (n:Nat) (sl:List (Nat × AV)) (cn:List (bh × Con)) (k:bh):(mkE n sl cn).con k = cn.lookup k:=rfl
theorem Zq (n:Nat) (sl:List (Nat × AV)) (cn:List (bh × Con)) (s:Nat):(mkE n sl cn).gen s = 0:=rfl
theorem Ti (n:Nat) (sl:List (Nat × AV)) (cn:List (bh × Con)) (s:Nat):(mkE n sl cn).dirty s = []:=rfl
theorem jb8 (d:Nat) (av:AV) (cs:Nat → Option Con):(e.set d av cs).n = e.n:=rfl
theorem jb7 (d:Nat) (av:AV) (cs:Nat → Option Con) (s:Nat):(e.set d av cs).s s = if s = d then av else e.s s:=rfl
theorem Wi (d:Nat) (av:AV) (cs:Nat → Option Con) (k:bh):(e.set d av cs).con k = if k.1 = d then cs k.2 else e.con k:=rfl
theorem Wh (d:Nat) (av:AV) (cs:Nat → Option Con) (s:Nat):(e.set d av cs).gen s = if s = d then e.gen d + 1 else e.gen s:=rfl
theorem Pj (d:Nat) (av:AV) (cs:Nat → Option Con) (s:Nat):(e.set d av cs).dirty s = if s = d then [] else e.dirty s:=rfl
theorem jcc (r:Nat) (p:aj) (y:C):(e.put r p y).n = e.n:=rfl
theorem jcb (r:Nat) (p:aj) (y:C) (s:Nat):(e.put r p y).s s = e.s s:=rfl
theorem Zk (r:Nat) (p:aj) (y:C) (k:bh):(e.put r p y).con k = if k = (r,0) then (e.con k).map (fun cn=>{ cn with xs:=puts cn.xs y p }) else e.con k:=rfl
theorem Wr (r:Nat) (p:aj) (y:C) (s:Nat):(e.put r p y).gen s = e.gen s:=rfl
theorem Py (r:Nat) (p:aj) (y:C) (s:Nat):(e.put r p y).dirty s = if s = r then p :: e.dirty r else e.dirty s:=rfl
theorem Xz (s:Nat):e.clean.s s = match e.s s with
 | .ref r g p ag n=>if (List.range n).all (fun i=>e.okB r g (a6 p i)) = true then .ref r 0 p ag n else .dead
 | .ptr r g p k=>if e.okB r g p.dropLast = true then .ptr r 0 p k else .dead
 | .clo g rs=>if rs.all (fun x=>e.okB x.1 x.2 []) = true then .clo g (rs.map fun x=>(x.1,0)) else .dead
 | av=>av:=rfl
end
def AV.keep:AV → AV
 | .tup _=>.dead
 | av=>av
def keepE (e:Env) (ks:List Nat):Env:=mkE e.n (ks.map fun s=>(s,(e.clean.s s).keep)) (ks.filterMap fun s=>(e.con (s,0)).map fun c=>((s,0),c))
theorem zr (e:Env) (s:Nat):∀ (ks:List Nat),(ks.map fun s=>(s,(e.clean.s s).keep)).lookup s = if s ∈ ks then some ((e.clean.s s).keep) else none
 | []=>rfl
 | k :: ks=>by
  rw [List.map_cons,List.lookup_cons]
  by_cases h:s = k
  ·subst h; simp
  ·have:(s == k) = false:=by simpa using h
   rw [this];simp only [zr e s ks,List.mem_cons,h,false_or]
theorem pg (e:Env) (k:bh):∀ (ks:List Nat),(ks.filterMap fun s=>(e.con (s,0)).map fun c=>((s,0),c)).lookup k = if k.2 = 0 ∧ k.1 ∈ ks then e.con k else none
 | []=>by simp
 | s :: ks=>by
  obtain ⟨k1,k2⟩:=k;rw [List.filterMap_cons]
  cases hc:e.con (s,0) with
  | none =>
   simp only [Option.map_none];rw [pg e (k1,k2) ks]
   by_cases h:k2 = 0 ∧ k1 ∈ ks
   ·rw [if_pos h,if_pos ⟨h.1,by simp [h.2]⟩]
   ·rw [if_neg h]
    by_cases h2:k2 = 0 ∧ k1 = s
    ·obtain ⟨rfl,rfl⟩:=h2; rw [hc]; simp
    ·rw [if_neg fun h3=>by
      rcases List.mem_cons.1 h3.2 with h4 | h4
      ·exact h2 ⟨h3.1,h4⟩
      ·exact h ⟨h3.1,h4⟩]
  | some c =>
   simp only [Option.map_some];rw [List.lookup_cons]
   by_cases h2:(k1,k2) = (s,0)
   ·cases h2; simp [hc]
   ·have:((k1,k2) == (s,0)) = false:=by simpa using h2
    rw [this];simp only [pg e (k1,k2) ks]
    by_cases h:k2 = 0 ∧ k1 ∈ ks
    ·rw [if_pos h,if_pos ⟨h.1,by simp [h.2]⟩]
    ·rw [if_neg h,if_neg fun h3=>by
      rcases List.mem_cons.1 h3.2 with h4 | h4
      ·have h5:k2 = 0:=h3.1;have h6:k1 = s:=h4;subst h5 h6; exact h2 rfl
      ·exact h ⟨h3.1,h4⟩]
theorem ce (e:Env) (ks:List Nat):Weak e (keepE e ks):=fun w0 a w hst=>by
 obtain ⟨val,S,h⟩:=Kj e w0 a w hst
 have hcon:∀ k x,(keepE e ks).con k = some x → e.con k = some x:=fun k x hk=>by
  have hk:(ks.filterMap fun s=>(e.con (s,0)).map fun c=>((s,0),c)).lookup k = some x:=hk;rw [pg] at hk;split at hk
  ·exact hk
  ·cases hk
 have hown:∀ b k p,OwnB (keepE e ks).con val b k p → OwnB e.con val b k p:=fun b k p ho=>by
  obtain ⟨x,hx⟩:=ho.some;exact ho.con ((hcon k x hx).trans hx.symm) rfl
 refine ⟨val,S,h.sz,h.defers,⟨fun k x p c h1 h2=>h.mem.node k x p c (hcon k x h1) h2,fun k t xs h1=>h.mem.root k t xs (hcon k _ h1),fun b k p k' p' h1 h2=>h.mem.inj b k p k' p' (hown _ _ _ h1) (hown _ _ _ h2),fun b hb=>⟨(h.mem.sep b hb).1,fun k p ho=>(h.mem.sep b hb).2 k p (hown _ _ _ ho)⟩⟩,fun s=>?_,h.frm,fun b k p ho=>h.low b k p (hown _ _ _ ho),fun s hs=>h.rts s hs,h.sS⟩;show SV _ _ _ _ s (((ks.map fun s=>(s,(e.clean.s s).keep)).lookup s).getD .dead) _;rw [zr]
 by_cases hs:s ∈ ks
 ·rw [if_pos hs];have hsv:=h.slot s;show SV _ _ _ _ s (e.clean.s s).keep _
  have hc0:(keepE e ks).con (s,0) = e.con (s,0):=by
   show (ks.filterMap fun s=>(e.con (s,0)).map fun c=>((s,0),c)).lookup (s,0) = _;rw [pg,if_pos ⟨rfl,hs⟩]
  generalize e.clean.s s = av at *
  cases av with
  | own ag m=>show TVok _ _ ((keepE e ks).con (s,0)) _ _ _; rw [hc0]; exact hsv
  | box=>exact ⟨by rw [hc0]; exact hsv.1,hsv.2⟩
  | tup ts=>trivial
  | dead=>trivial
  | c x=>exact hsv
  | agg xs=>exact hsv
  | rp xs=>exact hsv
  | fn g css=>exact hsv
  | clo g rs=>exact hsv
  | ref r g p ag n=>exact hsv
  | ptr r g p k=>exact hsv
 ·rw [if_neg hs]; trivial
section
variable {P:Program} {w0:Base} {Q:Exit → Env → Prop} {e:Env}
theorem bd {y:Code} (ks:List Nat) {n:Nat} {sl:List (Nat × AV)} {cn:List (bh × Con)} (hk:keepE e ks = mkE n sl cn) (h:DW P w0 y Q (mkE n sl cn)):v6 (DW P w0 y Q) Q .normal e:=gz (ce e ks) (by rw [hk]; exact h)
structure ej (P:Program) (nn:Nat) (ds:List (Option Nat)) (l:List Oper) (e:Env) (K:Env → Prop):Prop where
 out:∀ (w0:Base) (ops:Array Oper) (i:Nat) (Qx:Exit → Act → World → Prop),y6 ops = ds → ops.toList.drop i = l → e.n = nn → (∀ e a w,K e → St w0 e a w → Qx .normal a w) → ∀ a w,St w0 e a w → wpOps P ops Qx (List.range' i l.length) a w
theorem Jr {id:Nat} {ops:Array Oper} {nn:Nat} {ds:List (Option Nat)} (hn:e.n = nn) (hd:y6 ops = ds) (h:∀ K:Env → Prop,(∀ e',Q .normal e' → K e') → ej P nn ds ops.toList e K):DW P w0 (.region id ops false) Q e:=fun a w hs=>by
 have h1:=(h (Q .normal) fun _ h=>h).out w0 ops 0 (fun ex a' w'=>∃ e',Q ex e' ∧ St w0 e' a' w') hd (by simp) hn (fun e a w hK hs=>⟨e,hK,hs⟩) a w hs;rw [show List.range' 0 ops.toList.length = List.range ops.size by rw [List.range_eq_range']; simp] at h1;exact wp_region h1
theorem jcu {c:Operand} {x y:Code} {b:Bool} (hc:Fp e c = some b) (ht:b = true → DW P w0 x Q e) (hf:b = false → DW P w0 y Q e):DW P w0 (.cond c x y) Q e:=Xq hc ht hf
theorem Weak.of_eq {e e':Env} (h:e = e'):Weak e e':=h ▸ Weak.refl e
theorem jz {nn:Nat} {ds:List (Option Nat)} {o:Oper} {l:List Oper} {R:Env → Prop} {K:Env → Prop} (h:ah (kw P) none (gQ P nn ds o) e R) (h2:∀ e',R e' → ej P nn ds l e' K):ej P nn ds (o :: l) e K:=⟨fun w0 ops i Qx hds hl hn hK a w hs=>by
 have ho:ops[i]? = some o:=by
  have:=congrArg (fun l=>l[0]?) hl;simpa using this
 rw [List.length_cons,List.range'_succ,wpOps_cons];rw [← hds] at h;refine wpOp_mono ?_ (Jj ho (fun _ _ _ _ h=>h) hn (ng _ _ h) hs);rintro a' w' ⟨e',⟨h3,h4⟩,h5⟩
 exact (h2 e' h3).out w0 ops (i + 1) Qx hds (by rw [← List.drop_drop,hl]; rfl) (h4.trans hn) hK a' w' h5⟩
theorem Fu {nn:Nat} {ds:List (Option Nat)} {o:Oper} {l:List Oper} {E1:Env} {K:Env → Prop} (h:ah (kw P) none (gQ P nn ds o) e (fun e'=>e' = E1)) (h2:ej P nn ds l E1 K):ej P nn ds (o :: l) e K:=jz h fun e' he=>he ▸ h2
theorem aa {nn:Nat} {ds:List (Option Nat)} {K:Env → Prop} (h:K e):ej P nn ds [] e K:=⟨fun w0 ops i Qx _ _ _ hK a w hs=>hK e a w h hs⟩
theorem Re {nn:Nat} {ds:List (Option Nat)} {l:List Oper} {e':Env} {K:Env → Prop} (h:Weak e e') (hn:e'.n = e.n) (h2:ej P nn ds l e' K):ej P nn ds l e K:=⟨fun w0 ops i Qx hds hl hn' hK a w hs=>h2.out w0 ops i Qx hds hl (hn.trans hn') hK a w (h w0 a w hs)⟩
theorem O5 {nn:Nat} {ds:List (Option Nat)} {l:List Oper} {e':Env} {K:Env → Prop} (h:e = e') (h2:ej P nn ds l e' K):ej P nn ds l e K:=h ▸ h2
theorem Fj {id:Nat} {next:Env → Prop} (h:Q .normal e):DW P w0 (.exit id) (v6 next (Ml id Q)) e:=Ox (by show (if id = id then _ else _); rw [if_pos rfl]; exact h)
theorem an {id:Nat} {next next2:Env → Prop} (h:Q .normal e):DW P w0 (.exit id) (v6 next (v6 next2 (Ml id Q))) e:=Ox (by show (if id = id then _ else _); rw [if_pos rfl]; exact h)
theorem am {fn:Func} {res:Array ResultVar} {Post:Res → Prop} {r:Res} (hres:fn.results = res) (h:REs P e res.toList r) (hn:(res.toList.map cy).Nodup) (hp:Post r):Fin P fn Post .ret e:=⟨r,by rw [hres]; exact h,by rw [hres]; exact hn,hp⟩
theorem REs.one {v:ResultVar} {r:RV} (h:RE P e v r):REs P e [v] [r]:=.cons _ _ _ _ h .nil
theorem REs.two {v v':ResultVar} {r r':RV} (h:RE P e v r) (h':RE P e v' r'):REs P e [v,v'] [r,r']:=.cons _ _ _ _ h (.cons _ _ _ _ h' .nil)
end
end
section
open Go Go.RowKit
def opE (e:Env) (x:Operand):Option AV:=match x with
 | .tmp s=>some (slotView s (e.gen s) (e.s s))
 | .const v=>some (constAV v)
 | .func f=>some (.c (.p (.func (.func f) #[] #[])))
 | .global _=>none
def setE (nn:Nat) (d:Option Nat) (us:List Upd) (av:AV) (cs:Nat → Option Con) (e:Env):Option Env:=match d with
 | some d=>if d < nn then some (upds (us ++ [.set d av cs]) e) else none
 | none=>none
def outE (nn:Nat) (d:Option Nat) (av:AV) (e:Env):Option Env:=if av.plain = true then setE nn d [] av noCon e else none
def moveE (nn:Nat) (d:Option Nat) (x:Operand) (e:Env):Option Env:=match opE e x with
 | none=>none
 | some av=>outE nn d av e
def tconsE (e:Env) (s:Nat):Nat → List (Option Con)
 | 0=>[]
 | n + 1=>tconsE e s n ++ [e.con (s,n + 1)]
def mvAE (nn:Nat) (d:Option Nat) (s:Nat) (e:Env):AV → Option Env
 | .tup ts=>if d ≠ some s then setE nn d (dropsU s ts.length) (.tup ts) (listCon (tconsE e s ts.length)) e else none
 | av=>outE nn d av e
def mvE (nn:Nat) (d:Option Nat) (x:Operand) (e:Env):Option Env:=match x with
 | .tmp s=>mvAE nn d s e (slotView s (e.gen s) (e.s s))
 | x=>moveE nn d x e
def boolE:AV → Option Bool
 | .c (.p (.bool b))=>some b
 | _=>none
def intE:AV → Option Int
 | .c (.p (.int _ n))=>some n
 | _=>none
def plainE:AV → Option Value
 | .c (.p v)=>some v
 | _=>none
def bopE (e:Env) (x:Operand):Option Bool:=match opE e x with
 | none=>none
 | some av=>boolE av
def iopE (e:Env) (x:Operand):Option Int:=match opE e x with
 | none=>none
 | some av=>intE av
def popE (e:Env) (x:Operand):Option Value:=match opE e x with
 | none=>none
 | some av=>plainE av
def pickE (nn:Nat) (d:Option Nat) (c x y:Operand) (e:Env):Option Env:=match bopE e c with
 | none=>none
 | some b=>moveE nn d (if b = true then x else y) e
def subsE (e:Env) (r g:Nat) (p:aj):Nat → Option (List C)
 | 0=>some []
 | n + 1=>match subsE e r g p n with
  | none=>none
  | some cs=>match e.sub r g (a6 p n) with
   | none=>none
   | some c=>some (cs ++ [c])
def cellsE (e:Env) (r g:Nat) (p:aj) (k:Nat):Nat → Option (List Hd)
 | 0=>some []
 | n + 1=>match cellsE e r g p k n with
  | none=>none
  | some hs=>match e.cell r g (a6 p n) k with
   | none=>none
   | some h=>some (hs ++ [h])
def takeE (nn:Nat) (d:Option Nat) (e:Env):AV → Option Env
 | .ref r g p ag n=>if d ≠ some r ∧ 0 < n ∧ (ag = false → n = 1) then (match subsE e r g p n with
  | none=>none
  | some cs=>setE nn d (holesU r p n) (.own ag n) (oneCon ⟨none,cs⟩) e) else none
 | av=>outE nn d av e
def assignE (nn:Nat) (d:Option Nat) (x:Operand) (e:Env):Option Env:=match opE e x with
 | none=>none
 | some av=>takeE nn d e av
def allocE (P:Program) (nn:Nat) (d:Option Nat) (t:TypeId) (e:Env):Option Env:=match bp P t with
 | none=>none
 | some ti=>setE nn d [] .box (oneCon ⟨some t,ti.zero.map C.p⟩) e
def boxE (P:Program) (nn:Nat) (d:Option Nat) (t:TypeId) (x:Operand) (e:Env):Option Env:=match bp P t with
 | none=>none
 | some ti=>match opE e x with
  | none=>none
  | some av=>match cellsOf ti.agg av with
   | some xs=>setE nn d [] .box (oneCon ⟨some t,xs⟩) e
   | none=>match d with
    | none=>none
    | some d=>match av with
     | .ref s g p ag n=>if d < nn ∧ s ≠ d ∧ ag = ti.agg ∧ n = ti.size ∧ (ag = false → n = 1) then (match subsE e s g p n with
      | none=>none
      | some cs=>if cs.all C.one = true then some (upds (.set d .box (oneCon ⟨some t,List.replicate n .hole⟩) :: graftU s p d [(0,0)] 0 cs) e) else none) else none
     | _=>none
def ldE (nn:Nat) (d:Option Nat) (e:Env) (ti:TI):AV → Option Env
 | .ptr r g p k=>if ti.agg = true then (match cellsE e r g p k ti.size with
  | none=>none
  | some hs=>match roAll hs with
   | some xs=>outE nn d (.agg xs) e
   | none=>outE nn d (.ref r g p true ti.size) e)
  else match e.cell r g p k with
   | some (.p v)=>outE nn d (.c (.p v)) e
   | some (.ro c)=>outE nn d (.c c) e
   | some (.own _ _ _)=>outE nn d (.ref r g p false 1) e
   | _=>none
 | .rp xs=>if ti.agg = true then (if ti.size ≤ xs.length then outE nn d (.agg (xs.take ti.size)) e else none)
  else match xs with
   | x :: _=>outE nn d (.c x) e
   | []=>none
 | _=>none
def loadE (P:Program) (nn:Nat) (d:Option Nat) (t:TypeId) (x:Operand) (e:Env):Option Env:=match bp P t with
 | none=>none
 | some ti=>match opE e x with
  | none=>none
  | some av=>ldE nn d e ti av
def stE (e:Env) (ti:TI) (av2:AV):AV → Option Env
 | .ptr r g p k=>match cellsOf ti.agg av2 with
  | some ys=>if ys.length = ti.size then (match cellsE e r g p k ti.size with
   | none=>none
   | some _=>some (upds (putsU r p 0 ys) e)) else none
  | none=>match av2 with
   | .ref s g2 p2 ag n=>if ag = ti.agg ∧ n = ti.size ∧ s ≠ r ∧ (ag = false → n = 1) then (match cellsE e r g p k ti.size with
    | none=>none
    | some _=>match subsE e s g2 p2 n with
     | none=>none
     | some cs=>if cs.all C.one = true then some (upds (putsU r p 0 (List.replicate n .hole) ++ graftU s p2 r p 0 cs) e) else none) else none
   | _=>none
 | _=>none
def storeE (P:Program) (d:Option Nat) (ty:TypeId) (xa xv:Operand) (e:Env):Option Env:=match d with
 | some _=>none
 | none=>match bp P ty with
  | none=>none
  | some ti=>match opE e xa with
   | none=>none
   | some av=>match opE e xv with
    | none=>none
    | some av2=>stE e ti av2 av
def binE (P:Program) (nn:Nat) (d:Option Nat) (op:BinOp) (ty:TypeId) (x y:Operand) (e:Env):Option Env:=match opE e x with
 | none=>none
 | some u=>match opE e y with
  | none=>none
  | some v=>match binAV P op ty u v with
   | none=>none
   | some z=>outE nn d (.c (.p z)) e
def unE (nn:Nat) (d:Option Nat) (op:UnOp) (x:Operand) (e:Env):Option Env:=match popE e x with
 | none=>none
 | some u=>match unV op u with
  | none=>none
  | some z=>outE nn d (.c (.p z)) e
def faE (nn:Nat) (d:Option Nat) (e:Env) (off:Nat):AV → Option Env
 | .ptr r g p k=>match e.cell r g (a6 p off) k with
  | none=>none
  | some _=>outE nn d (.ptr r g (a6 p off) k) e
 | .rp xs=>outE nn d (.rp (xs.drop off)) e
 | _=>none
def fieldAddrE (P:Program) (nn:Nat) (d:Option Nat) (s:TypeId) (x:Operand) (f:Nat) (e:Env):Option Env:=match bp P s with
 | none=>none
 | some ti=>match ti.fields[f]? with
  | none=>none
  | some (off,fty)=>match bp P fty with
   | none=>none
   | some _=>match opE e x with
    | none=>none
    | some av=>faE nn d e off av
def iaE (nn:Nat) (d:Option Nat) (e:Env) (size:Nat) (n:Int):AV → Option Env
 | .ref r g p ag m=>if ag = false ∧ m = 1 then (match e.hd r g p with
  | some (.own _ k len)=>if 0 ≤ n ∧ n < (len:Int) ∧ k = size then outE nn d (.ptr r g (p ++ [(n.toNat,0)]) k) e else none
  | _=>none) else none
 | .c (.sl _ _ k rows)=>if 0 ≤ n ∧ n < (rows.length:Int) ∧ k = size then outE nn d (.rp (rows.getD n.toNat [])) e else none
 | _=>none
def indexAddrE (P:Program) (nn:Nat) (d:Option Nat) (s:TypeId) (x ix:Operand) (e:Env):Option Env:=match bp P s with
 | none=>none
 | some ti=>match ti.elem with
  | none=>none
  | some el=>match bp P el with
   | none=>none
   | some te=>match opE e x with
    | none=>none
    | some av=>match iopE e ix with
     | none=>none
     | some n=>iaE nn d e te.size n av
def makeE (P:Program) (nn:Nat) (d:Option Nat) (t:TypeId) (l c:Operand) (e:Env):Option Env:=match bp P t with
 | none=>none
 | some ti=>match ti.elem with
  | none=>none
  | some el=>match bp P el with
   | none=>none
   | some te=>match iopE e l with
    | none=>none
    | some n=>match iopE e c with
     | none=>none
     | some m=>if 0 ≤ n ∧ n ≤ m ∧ m ≤ 4194304 ∧ te.bytes ≤ 4194304 then setE nn d [] (.own false 1) (oneCon ⟨none,[.sl true el te.size (fc te.zero n.toNat)]⟩) e else none
def exE (nn:Nat) (d:Option Nat) (e:Env) (s i:Nat):Option TV → Option Env
 | some (.c x)=>outE nn d (.c x) e
 | some (.agg xs)=>outE nn d (.agg xs) e
 | some (.own ag n)=>if d ≠ some s then (match e.con (s,i + 1) with
  | some cn=>setE nn d [.drop s i] (.own ag n) (oneCon cn) e
  | none=>none) else none
 | none=>none
def extractE (nn:Nat) (d:Option Nat) (x:Operand) (i:Nat) (e:Env):Option Env:=match x with
 | .tmp s=>match slotView s (e.gen s) (e.s s) with
  | .tup ts=>exE nn d e s i ts[i]?
  | _=>none
 | _=>none
def lnE (P:Program) (nn:Nat) (d:Option Nat) (s:TypeId) (e:Env):AV → Option Env
 | .c (.p (.string b))=>if Ue P s = true then outE nn d (.c (.p (.int .i64 b.size))) e else none
 | av=>match bp P s with
  | none=>none
  | some ti=>if ti.elem.isSome = true then (match av with
   | .ref r g p ag m=>if ag = false ∧ m = 1 then (match e.hd r g p with
    | some (.own _ _ len)=>outE nn d (.c (.p (.int .i64 len))) e
    | _=>none) else none
   | .c (.sl _ _ _ rows)=>outE nn d (.c (.p (.int .i64 rows.length))) e
   | .c (.p (.slice _ n _))=>outE nn d (.c (.p (.int .i64 n))) e
   | _=>none) else none
def lenE (P:Program) (nn:Nat) (d:Option Nat) (s:TypeId) (x:Operand) (e:Env):Option Env:=match opE e x with
 | none=>none
 | some av=>lnE P nn d s e av
def partsE (e:Env):List (Nat × Operand) → Option (List (Nat × List C))
 | []=>some []
 | (i,x) :: ps=>match opE e x with
  | none=>none
  | some av=>match partOf av with
   | none=>none
   | some ys=>match partsE e ps with
    | none=>none
    | some rs=>some ((i,ys) :: rs)
def buildE (P:Program) (nn:Nat) (d:Option Nat) (t:TypeId) (ps:List (Nat × Operand)) (e:Env):Option Env:=match bp P t with
 | none=>none
 | some ti=>match ti.fields with
  | []=>none
  | f :: fs=>match placesOf P (f :: fs) with
   | none=>none
   | some pl=>match partsE e ps with
    | none=>none
    | some rs=>match fillC (fun i=>pl[i]?) (ti.zero.map C.p) rs with
     | some ys=>outE nn d (.agg ys) e
     | none=>none
inductive Vq where
 | flat (rows2:List (List C))
 | row (s:Nat) (p:aj) (row:List C)
def ownAnyE (e:Env):List (Nat × Operand) → Option Bool
 | []=>some false
 | x :: ps=>match opE e x.2 with
  | none=>none
  | some av=>if av.refB = true then some true else ownAnyE e ps
def oPartE (e:Env) (n i:Nat) (av:AV) (rest:Option (List (Nat × List CK) × List (Option (Nat × aj × C)))):Option (List (Nat × List CK) × List (Option (Nat × aj × C))):=match rest with
 | none=>none
 | some x=>match av with
  | .ref r g p ag m=>if ag = false ∧ m = 1 then (match subsE e r g p 1 with
   | some [c]=>if c.one = true then some ((i,[.inr n]) :: x.1,some (r,p,c) :: x.2) else none
   | _=>none) else none
  | av=>match partOf av with
   | some ys=>some ((i,ys.map .inl) :: x.1,none :: x.2)
   | none=>none
def oPartsE (e:Env):Nat → List (Nat × Operand) → Option (List (Nat × List CK) × List (Option (Nat × aj × C)))
 | _,[]=>some ([],[])
 | n,x :: ps=>match opE e x.2 with
  | none=>none
  | some av=>oPartE e n x.1 av (oPartsE e (n + 1) ps)
def buildOE (P:Program) (nn:Nat) (d:Option Nat) (t:TypeId) (ps:List (Nat × Operand)) (e:Env):Option Env:=match bp P t with
 | none=>none
 | some ti=>match ti.fields with
  | []=>none
  | f :: fs=>match placesOf P (f :: fs) with
   | none=>none
   | some pl=>match oPartsE e 0 ps with
    | none=>none
    | some x=>match fillG (fun i=>pl[i]?) (ti.zero.map fun v=>.inl (.p v)) x.1 with
     | none=>none
     | some ys=>match d with
      | none=>none
      | some d=>if d < nn ∧ rootsB d x.2 [] ys = true then some ((upds (ownMoves d x.2 0 ys) (e.set d (.own true ys.length) (oneCon ⟨none,ys.map initC⟩))).set d (.own true ys.length) (oneCon ⟨none,movedC x.2 (ys.map initC) 0 ys⟩)) else none
def bldE (P:Program) (nn:Nat) (d:Option Nat) (t:TypeId) (ps:List (Nat × Operand)) (e:Env):Option Env:=match ownAnyE e ps with
 | none=>none
 | some b=>if b = true then buildOE P nn d t ps e else buildE P nn d t ps e
def srcE (e:Env) (k:Nat) (av2:AV):Option Vq:=match av2 with
 | .c (.p (.slice none 0 0))=>some (.flat [])
 | .c (.sl _ _ k2 rows2)=>if k2 = k ∧ km rows2 = true then some (.flat rows2) else none
 | .ref s g p ag m=>if ag = false ∧ m = 1 then (match e.sub s g p with
  | some (.sl true _ k2 rows2)=>if k2 = k then (if km rows2 = true then some (.flat rows2) else match rows2 with
   | [row]=>if row.all C.one = true then some (.row s p row) else none
   | _=>none) else none
  | _=>none) else none
 | _=>none
def apNilE (nn dd el:Nat) (te:TI) (e:Env):Option Vq → Option Env
 | some (.flat rows2)=>if rows2.length ≤ 1000000000 ∧ te.bytes ≤ 100000 then setE nn (some dd) [.set dd (.own false 1) (oneCon ⟨none,[.sl true el te.size []]⟩)] (.own false 1) (oneCon ⟨none,[.sl true el te.size rows2]⟩) e else none
 | some (.row s2 p2 row)=>if dd ≠ s2 ∧ te.bytes ≤ 100000 ∧ dd < nn then some (upds ([.set dd (.own false 1) (oneCon ⟨none,[.sl true el te.size []]⟩),.set dd (.own false 1) (oneCon ⟨none,[.sl true el te.size [List.replicate te.size .hole]]⟩)] ++ graftU s2 (p2 ++ [(0,0)]) dd [(0,0),(0,0)] 0 row) e) else none
 | none=>none
def apOwnE (nn dd el r:Nat) (p:aj) (te:TI) (rows:List (List C)) (e:Env):Option Vq → Option Env
 | some (.flat rows2)=>if rows.length + rows2.length ≤ 1000000000 ∧ te.bytes ≤ 100000 then setE nn (some dd) (holesU r p 1 ++ [.set dd (.own false 1) (oneCon ⟨none,[.sl true el te.size rows]⟩)]) (.own false 1) (oneCon ⟨none,[.sl true el te.size (rows ++ rows2)]⟩) e else none
 | some (.row s2 p2 row)=>if dd ≠ s2 ∧ r ≠ s2 ∧ rows.length + 1 ≤ 1000000000 ∧ te.bytes ≤ 100000 ∧ dd < nn then some (upds (holesU r p 1 ++ [.set dd (.own false 1) (oneCon ⟨none,[.sl true el te.size rows]⟩),.set dd (.own false 1) (oneCon ⟨none,[.sl true el te.size (rows ++ [List.replicate te.size .hole])]⟩)] ++ graftU s2 (p2 ++ [(0,0)]) dd [(0,0),(rows.length,0)] 0 row) e) else none
 | none=>none
def apE (nn dd el:Nat) (te:TI) (e:Env) (av av2:AV):Option Env:=match av with
 | .c (.p (.slice none 0 0))=>apNilE nn dd el te e (srcE e te.size av2)
 | .ref r g p ag m=>if ag = false ∧ m = 1 ∧ dd ≠ r then (match e.sub r g p with
  | some (.sl true t k rows)=>if t = el ∧ k = te.size then apOwnE nn dd el r p te rows e (srcE e te.size av2) else none
  | _=>none) else none
 | _=>none
def appendE (P:Program) (nn:Nat) (d:Option Nat) (s:TypeId) (x y:Operand) (e:Env):Option Env:=match bp P s with
 | none=>none
 | some ti=>match ti.elem with
  | none=>none
  | some el=>match bp P el with
   | none=>none
   | some te=>match d with
    | none=>none
    | some dd=>match opE e x with
     | none=>none
     | some av=>match opE e y with
      | none=>none
      | some av2=>apE nn dd el te e av av2
def buildSliceE (P:Program) (nn:Nat) (d:Option Nat) (ty:TypeId) (n:Nat) (ps:List (Nat × Operand)) (e:Env):Option Env:=match bp P ty with
 | none=>none
 | some ti=>match ti.elem with
  | none=>none
  | some el=>match bp P el with
   | none=>none
   | some te=>if n * te.size ≤ 16777216 then (match partsE e ps with
    | none=>none
    | some rs=>match fillC (fun i=>some (i * te.size,te.size)) (zerosC te.zero n) rs with
     | some ys=>if ys.all C.flat = true then setE nn d [] (.own false 1) (oneCon ⟨none,[.sl true el te.size (chunk te.size ys n)]⟩) e else none
     | none=>none) else none
def moveSliceE (nn:Nat) (d:Option Nat) (el:TypeId) (te:TI) (e:Env) (av:AV):Option Env:=match d,av with
 | some dd,.ref s g p ag m=>if ag = te.agg ∧ m = te.size ∧ dd ≠ s ∧ dd < nn ∧ (ag = false → m = 1) then (match subsE e s g p m with
  | none=>none
  | some cs=>if cs.all C.one = true then (if cs.all C.flat = true then setE nn (some dd) [] (.own false 1) (oneCon ⟨none,[.sl true el te.size [cs]]⟩) e
   else some (upds (.set dd (.own false 1) (oneCon ⟨none,[.sl true el te.size [List.replicate te.size .hole]]⟩) :: graftU s p dd [(0,0),(0,0)] 0 cs) e)) else none) else none
 | _,_=>none
def bs1E (P:Program) (nn:Nat) (d:Option Nat) (ty:TypeId) (x:Operand) (e:Env):Option Env:=match bp P ty with
 | none=>none
 | some ti=>match ti.elem with
  | none=>none
  | some el=>match bp P el with
   | none=>none
   | some te=>match opE e x with
    | none=>none
    | some av=>match partOf av with
     | some _=>buildSliceE P nn d ty 1 [(0,x)] e
     | none=>if te.size ≤ 16777216 then moveSliceE nn d el te e av else none
def bsE (P:Program) (nn:Nat) (d:Option Nat) (ty:TypeId) (n:Nat) (ps:List (Nat × Operand)) (e:Env):Option Env:=match n,ps with
 | 1,[(0,x)]=>bs1E P nn d ty x e
 | n,ps=>buildSliceE P nn d ty n ps e
def bndE (e:Env) (x:Option Operand):Option (Option Int):=match x with
 | none=>some none
 | some x=>match iopE e x with
  | none=>none
  | some n=>some (some n)
def slAvE (nn:Nat) (d:Option Nat) (el:TypeId) (te:TI) (l h:Option Int) (e:Env) (av:AV):Option Env:=match av with
 | .c (.sl _ t k rows)=>if k = te.size ∧ bndOk l h rows.length then outE nn d (.c (.sl false t k (cutB rows l h))) e else none
 | .ref r g p ag m=>match d with
  | none=>none
  | some dd=>if ag = false ∧ m = 1 ∧ dd ≠ r then (match e.sub r g p with
   | some (.sl true t k rows)=>if t = el ∧ k = te.size ∧ bndOk l h rows.length then setE nn (some dd) (holesU r p 1 ++ [.set dd (.own false 1) (oneCon ⟨none,[.sl true el te.size rows]⟩)]) (.own false 1) (oneCon ⟨none,[.sl true el te.size (cutB rows l h)]⟩) e else none
   | _=>none) else none
 | _=>none
def sliceE (P:Program) (nn:Nat) (d:Option Nat) (s:TypeId) (x:Operand) (lo hi:Option Operand) (e:Env):Option Env:=match bp P s with
 | none=>none
 | some ti=>match ti.elem with
  | none=>none
  | some el=>match bp P el with
   | none=>none
   | some te=>match opE e x with
    | none=>none
    | some av=>match bndE e lo with
     | none=>none
     | some l=>match bndE e hi with
      | none=>none
      | some h=>slAvE nn d el te l h e av
def mmAvE (nn:Nat) (d:Option Nat) (mx:Bool) (e:Env) (av av2:AV):Option Env:=match av,av2 with
 | .c (.p (.int .i64 n)),.c (.p (.int .i64 m))=>outE nn d (.c (.p (.int .i64 (if mx then max n m else min n m)))) e
 | _,_=>none
def mmE (nn:Nat) (d:Option Nat) (mx:Bool) (x y:Operand) (e:Env):Option Env:=match opE e x with
 | none=>none
 | some av=>match opE e y with
  | none=>none
  | some av2=>mmAvE nn d mx e av av2
def wholesE (e:Env):List (Nat × Nat) → Option (List (List C))
 | []=>some []
 | (r,g) :: rs=>match e.whole r g with
  | none=>none
  | some (_,ys)=>match wholesE e rs with
   | none=>none
   | some css=>some (ys :: css)
def boxpE:Option AV → Option (Nat × Nat)
 | some av=>isBoxP av
 | none=>none
def capsE (e:Env):List Operand → Option (List (Nat × Nat))
 | []=>some []
 | x :: xs=>match boxpE (opE e x) with
  | none=>none
  | some rg=>match capsE e xs with
   | none=>none
   | some l=>some (rg :: l)
def mkFnE (nn:Nat) (d:Option Nat) (g:FuncId) (caps:List Operand) (e:Env):Option Env:=match capsE e caps with
 | none=>none
 | some rs=>outE nn d (.clo g rs) e
def opX (P:Program) (nn:Nat) (d:Option Nat) (op:Op) (e:Env):Option Env:=match op with
 | .move x=>mvE nn d x e
 | .assign x=>assignE nn d x e
 | .pick c x y=>pickE nn d c x y e
 | .alloc t=>allocE P nn d t e
 | .box t x=>boxE P nn d t x e
 | .load t x=>loadE P nn d t x e
 | .store t x v=>storeE P d t x v e
 | .binOp op ty x y _=>binE P nn d op ty x y e
 | .unOp op _ x=>unE nn d op x e
 | .fieldAddr s x f=>fieldAddrE P nn d s x f e
 | .indexAddr s x i=>indexAddrE P nn d s x i e
 | .makeSlice t l c=>makeE P nn d t l c e
 | .extract x i=>extractE nn d x i e
 | .build t ps=>bldE P nn d t ps.toList e
 | .call ⟨.builtin .len,⟨[x]⟩,⟨[s]⟩⟩=>lenE P nn d s x e
 | .makeFunc (.func g) ⟨[]⟩ caps=>mkFnE nn d g caps.toList e
 | .buildSlice t n ps=>bsE P nn d t n ps.toList e
 | .call ⟨.builtin .append,⟨[x,y]⟩,⟨[s,s']⟩⟩=>if s = s' then appendE P nn d s x y e else none
 | .slice s x lo hi none=>sliceE P nn d s x lo hi e
 | .call ⟨.builtin .min,⟨[x,y]⟩,_⟩=>mmE nn d false x y e
 | .call ⟨.builtin .max,⟨[x,y]⟩,_⟩=>mmE nn d true x y e
 | _=>none
def gvE:AV → Option (Option Bool)
 | .c (.p (.bool b))=>some (some b)
 | .c (.p (.tuple _))=>some none
 | _=>none
def gopE (e:Env) (s:Nat):Option (Option Bool):=gvE (slotView s (e.gen s) (e.s s))
def skipE (nn:Nat) (d:Option Nat) (e:Env):Option Env:=match d with
 | some d=>setE nn (some d) [] (.c (.p (.tuple #[]))) noCon e
 | none=>some e
def gX (P:Program) (nn:Nat) (ds:List (Option Nat)) (o:Oper) (e:Env):Option Env:=match o.guard with
 | none=>opX P nn o.dst o.op e
 | some (j,want)=>match ds[j]? with
  | some (some dj)=>match gopE e dj with
   | none=>none
   | some b=>if b = some want then opX P nn o.dst o.op e else skipE nn o.dst e
  | _=>none
section
variable {P:Program} {nn:Nat} {ct:Cts} {e E1:Env} {d:Option Nat} {ds:List (Option Nat)} {o:Oper} {K:Env → Prop}
theorem fe {x:Operand} {k:AV → Q} {av:AV} (h:opE e x = some av):ah ct none (opd x k) e K = ah ct none (k av) e K:=by
 cases x with
 | tmp s=>simp only [opE,Option.some.injEq] at h; subst h; exact Bz
 | const v=>simp only [opE,Option.some.injEq] at h; subst h; rfl
 | func f=>simp only [opE,Option.some.injEq] at h; subst h; rfl
 | global g=>cases h
theorem ns {us:List Upd} {av:AV} {cs:Nat → Option Con} (h:setE nn d us av cs e = some E1):ah ct none (o5 nn d us av cs) e (fun x=>x = E1):=by
 unfold setE at h; unfold o5
 cases d with
 | none=>cases h
 | some d =>
  dsimp only at h ⊢;split at h
  ·rename_i hd; cases h; rw [if_pos hd,zm]
  ·cases h
theorem fu {av:AV} (h:outE nn d av e = some E1):ah ct none (ig nn d av) e (fun x=>x = E1):=by
 unfold outE at h; unfold ig;split at h
 ·rename_i hp; rw [if_pos hp]; exact ns h
 ·cases h
theorem Rt {x:Operand} (h:moveE nn d x e = some E1):ah ct none (Cg nn d x) e (fun x=>x = E1):=by
 unfold moveE at h; unfold Cg;split at h
 ·cases h
 ·rename_i av hx; rw [fe hx]; exact fu h
theorem Mx {s:Nat}:∀ {n:Nat} {k:List (Option Con) → Q},ah ct none (t8 s n k) e K = ah ct none (k (tconsE e s n)) e K
 | 0,k=>rfl
 | n + 1,k=>by unfold t8 tconsE; rw [Mx,S4]
theorem jdd {x:Operand} (h:mvE nn d x e = some E1):ah ct none (mvQ nn d x) e (fun x=>x = E1):=by
 unfold mvE at h; unfold mvQ;split at h
 ·dsimp only;rw [Bz];unfold mvAE at h;split at h
  ·rename_i ts hts; rw [hts]; dsimp only
   split at h
   ·rename_i hd; rw [if_pos hd,Mx]; exact ns h
   ·cases h
  ·rename_i hne
   split
   ·rename_i ts hts; exact (hne _ hts).elim
   ·exact fu h
 ·rename_i x hne
  split
  ·exact (hne _ rfl).elim
  ·exact Rt h
theorem Zc {av:AV} {b:Bool} {k:Bool → Q} (h:boolE av = some b):ah ct none (Dc av k) e K = ah ct none (k b) e K:=by
 unfold boolE at h; split at h <;> cases h; rfl
theorem jb0 {av:AV} {n:Int} {k:Int → Q} (h:intE av = some n):ah ct none (Du av k) e K = ah ct none (k n) e K:=by
 unfold intE at h; split at h <;> cases h; rfl
theorem V6 {av:AV} {v:Value} {k:Value → Q} (h:plainE av = some v):ah ct none (uh av k) e K = ah ct none (k v) e K:=by
 unfold plainE at h; split at h <;> cases h; rfl
theorem jb3 {x:Operand} {b:Bool} {k:Bool → Q} (h:bopE e x = some b):ah ct none (opd x fun av=>Dc av k) e K = ah ct none (k b) e K:=by
 unfold bopE at h; split at h
 ·cases h
 ·rename_i av hx; rw [fe hx]; exact Zc h
theorem Mz {x:Operand} {b:Int} {k:Int → Q} (h:iopE e x = some b):ah ct none (opd x fun av=>Du av k) e K = ah ct none (k b) e K:=by
 unfold iopE at h; split at h
 ·cases h
 ·rename_i av hx; rw [fe hx]; exact jb0 h
theorem jbw {x:Operand} {b:Value} {k:Value → Q} (h:popE e x = some b):ah ct none (opd x fun av=>uh av k) e K = ah ct none (k b) e K:=by
 unfold popE at h; split at h
 ·cases h
 ·rename_i av hx; rw [fe hx]; exact V6 h
theorem Y8 {c x y:Operand} (h:pickE nn d c x y e = some E1):ah ct none (Ep nn d c x y) e (fun x=>x = E1):=by
 unfold pickE at h; unfold Ep;split at h
 ·cases h
 ·rename_i b hb; rw [jb3 hb]; exact Rt h
theorem qr {r g:Nat} {p:aj}:∀ {n:Nat} {cs:List C} {k:List C → Q},subsE e r g p n = some cs → ah ct none (nx r g p n k) e K = ah ct none (k cs) e K
 | 0,cs,k,h=>by cases h; rfl
 | n + 1,cs,k,h=>by
  unfold subsE at h; unfold nx;split at h
  ·cases h
  ·rename_i cs0 h0
   split at h
   ·cases h
   ·rename_i c hc; cases h; rw [qr h0,Nm,hc]
theorem Am {r g:Nat} {p:aj} {kk:Nat}:∀ {n:Nat} {cs:List Hd} {k:List Hd → Q},cellsE e r g p kk n = some cs → ah ct none (pw r g p kk n k) e K = ah ct none (k cs) e K
 | 0,cs,k,h=>by cases h; rfl
 | n + 1,cs,k,h=>by
  unfold cellsE at h; unfold pw;split at h
  ·cases h
  ·rename_i cs0 h0
   split at h
   ·cases h
   ·rename_i c hc; cases h; rw [Am h0,K5,hc]
theorem Rx {x:Operand} (h:assignE nn d x e = some E1):ah ct none (ta nn d x) e (fun x=>x = E1):=by
 unfold assignE at h; unfold ta;split at h
 ·cases h
 ·rename_i av hx; rw [fe hx]
  unfold takeE at h;split at h
  ·dsimp only;split at h
   ·rename_i hc; rw [if_pos hc]
    split at h
    ·cases h
    ·rename_i cs hs; rw [qr hs]; exact ns h
   ·cases h
  ·rename_i hne
   split
   ·exact (hne _ _ _ _ _ rfl).elim
   ·exact fu h
theorem V8 {t:TypeId} (h:allocE P nn d t e = some E1):ah ct none (vp P nn d t) e (fun x=>x = E1):=by
 unfold allocE at h; unfold vp;split at h
 ·cases h
 ·rename_i ti ht; rw [ht]; exact ns h
theorem jb2 {t:TypeId} {x:Operand} (h:boxE P nn d t x e = some E1):ah ct none (Da P nn d t x) e (fun x=>x = E1):=by
 unfold boxE at h; unfold Da;split at h
 ·cases h
 ·rename_i ti ht; rw [ht]
  split at h
  ·cases h
  ·rename_i av hx; dsimp only; rw [fe hx]
   split at h
   ·rename_i xs hxs; rw [hxs]; exact ns h
   ·rename_i hxs; rw [hxs]
    dsimp only;split at h
    ·cases h
    ·split at h
     ·dsimp only;split at h
      ·rename_i hl; rw [if_pos hl]
       split at h
       ·cases h
       ·rename_i cs hs; rw [qr hs]
        split at h
        ·rename_i ha; cases h; rw [if_pos ha,zm]
        ·cases h
      ·cases h
     ·cases h
theorem Zb {t:TypeId} {x:Operand} (h:loadE P nn d t x e = some E1):ah ct none (Cl P nn d t x) e (fun x=>x = E1):=by
 unfold loadE at h; unfold Cl;split at h
 ·cases h
 ·rename_i ti ht; rw [ht]
  split at h
  ·cases h
  ·rename_i av hx; dsimp only; rw [fe hx]
   unfold ldE at h;split at h
   ·dsimp only;split at h
    ·rename_i ha; rw [if_pos ha]
     split at h
     ·cases h
     ·rename_i hs hcs; rw [Am hcs]
      split at h
      ·rename_i xs hr; rw [hr]; exact fu h
      ·rename_i hr; rw [hr]; exact fu h
    ·rename_i ha; rw [if_neg ha,K5]
     split at h
     ·rename_i hc; rw [hc]; exact fu h
     ·rename_i hc; rw [hc]; exact fu h
     ·rename_i hc; rw [hc]; exact fu h
     ·cases h
   ·dsimp only;split at h
    ·rename_i ha; rw [if_pos ha]
     split at h
     ·rename_i hl; rw [if_pos hl]; exact fu h
     ·cases h
    ·rename_i ha; rw [if_neg ha]
     split at h
     ·exact fu h
     ·cases h
   ·cases h
theorem V4 {t:TypeId} {x v:Operand} (h:storeE P d t x v e = some E1):ah ct none (ua P d t x v) e (fun x=>x = E1):=by
 unfold storeE at h; unfold ua;split at h
 ·cases h
 ·split at h
  ·cases h
  ·rename_i ti ht; rw [ht]
   split at h
   ·cases h
   ·rename_i av hx
    split at h
    ·cases h
    ·rename_i av2 hv
     dsimp only;rw [fe hx,fe hv];unfold stE at h;split at h
     ·dsimp only;split at h
      ·rename_i ys hys; rw [hys]
       dsimp only;split at h
       ·rename_i hl; rw [if_pos hl]
        split at h
        ·cases h
        ·rename_i hcs; cases h; rw [Am hcs,zm]
       ·cases h
      ·rename_i hys; rw [hys]
       split at h
       ·dsimp only;split at h
        ·rename_i hl; rw [if_pos hl]
         split at h
         ·cases h
         ·rename_i hcs; rw [Am hcs]
          split at h
          ·cases h
          ·rename_i cs hs; rw [qr hs]
           split at h
           ·rename_i ha; cases h; rw [if_pos ha,zm]
           ·cases h
        ·cases h
       ·cases h
     ·cases h
theorem jb5 {op:BinOp} {ty:TypeId} {x y:Operand} (h:binE P nn d op ty x y e = some E1):ah ct none (Rb P nn d op ty x y) e (fun x=>x = E1):=by
 unfold binE at h; unfold Rb;split at h
 ·cases h
 ·rename_i u hu; rw [fe hu]
  split at h
  ·cases h
  ·rename_i v hv; rw [fe hv]
   split at h
   ·cases h
   ·rename_i z hz; rw [hz]; exact fu h
theorem jdc {op:UnOp} {x:Operand} (h:unE nn d op x e = some E1):ah ct none (unQ nn d op x) e (fun x=>x = E1):=by
 unfold unE at h; unfold unQ;split at h
 ·cases h
 ·rename_i u hu; rw [jbw hu]
  split at h
  ·cases h
  ·rename_i z hz; rw [hz]; exact fu h
theorem Hs {s:TypeId} {x:Operand} {f:Nat} (h:fieldAddrE P nn d s x f e = some E1):ah ct none (iu P nn d s x f) e (fun x=>x = E1):=by
 unfold fieldAddrE at h; unfold iu;split at h
 ·cases h
 ·rename_i ti ht; rw [ht]
  dsimp only;split at h
  ·cases h
  ·rename_i off fty hf; rw [hf]
   dsimp only;split at h
   ·cases h
   ·rename_i tf htf; rw [htf]
    split at h
    ·cases h
    ·rename_i av hx; dsimp only; rw [fe hx]
     unfold faE at h;split at h
     ·dsimp only; rw [K5];split at h
      ·cases h
      ·rename_i hc; rw [hc]; exact fu h
     ·exact fu h
     ·cases h
theorem Hr {s:TypeId} {x ix:Operand} (h:indexAddrE P nn d s x ix e = some E1):ah ct none (it P nn d s x ix) e (fun x=>x = E1):=by
 unfold indexAddrE at h; unfold it;split at h
 ·cases h
 ·rename_i ti ht; rw [ht]
  dsimp only;split at h
  ·cases h
  ·rename_i el he; rw [he]
   dsimp only;split at h
   ·cases h
   ·rename_i te hte; rw [hte]
    split at h
    ·cases h
    ·rename_i av hx; dsimp only; rw [fe hx]
     split at h
     ·cases h
     ·rename_i n hn; rw [Mz hn]
      unfold iaE at h;split at h
      ·dsimp only;split at h
       ·rename_i hc; rw [if_pos hc,jca]
        split at h
        ·rename_i hh; rw [hh]
         split at h
         ·rename_i hl; dsimp only; rw [if_pos hl]; exact fu h
         ·cases h
        ·cases h
       ·cases h
      ·dsimp only;split at h
       ·rename_i hl; rw [if_pos hl]; exact fu h
       ·cases h
      ·cases h
theorem Za {t:TypeId} {l c:Operand} (h:makeE P nn d t l c e = some E1):ah ct none (Ck P nn d t l c) e (fun x=>x = E1):=by
 unfold makeE at h; unfold Ck;split at h
 ·cases h
 ·rename_i ti ht; rw [ht]
  dsimp only;split at h
  ·cases h
  ·rename_i el he; rw [he]
   dsimp only;split at h
   ·cases h
   ·rename_i te hte; rw [hte]
    split at h
    ·cases h
    ·rename_i n hn; dsimp only; rw [Mz hn]
     split at h
     ·cases h
     ·rename_i m hm; rw [Mz hm]
      split at h
      ·rename_i hl; rw [if_pos hl]; exact ns h
      ·cases h
theorem O9 {x:Operand} {i:Nat} (h:extractE nn d x i e = some E1):ah ct none (l9 nn d x i) e (fun x=>x = E1):=by
 unfold extractE at h; unfold l9;split at h
 ·rename_i s
  dsimp only;rw [Bz];split at h
  ·rename_i ts hv; rw [hv]
   dsimp only;unfold exE at h;split at h
   ·rename_i ht; rw [ht]; exact fu h
   ·rename_i ht; rw [ht]; exact fu h
   ·rename_i ht; rw [ht]
    dsimp only;split at h
    ·rename_i hd; rw [if_pos hd,S4]
     split at h
     ·rename_i hc; rw [hc]; exact ns h
     ·cases h
    ·cases h
   ·cases h
  ·cases h
 ·cases h
theorem jbz {s:TypeId} {x:Operand} (h:lenE P nn d s x e = some E1):ah ct none (Qk P nn d s x) e (fun x=>x = E1):=by
 unfold lenE at h; unfold Qk;split at h
 ·cases h
 ·rename_i av hx; rw [fe hx]
  unfold lnE at h;split at h
  ·split at h
   ·rename_i hs; dsimp only; rw [if_pos hs]; exact fu h
   ·cases h
  ·rename_i hne
   split at h
   ·cases h
   ·rename_i ti ht
    split
    ·exact (hne _ rfl).elim
    ·rw [ht];dsimp only;split at h
     ·rename_i he; rw [if_pos he]
      split at h
      ·dsimp only;split at h
       ·rename_i hc; rw [if_pos hc,jca]
        split at h
        ·rename_i hh; rw [hh]; exact fu h
        ·cases h
       ·cases h
      ·exact fu h
      ·exact fu h
      ·cases h
     ·cases h
theorem Fw:∀ {ps:List (Nat × Operand)} {rs:List (Nat × List C)} {k:List (Nat × List C) → Q},partsE e ps = some rs → ah ct none (pb ps k) e K = ah ct none (k rs) e K
 | [],rs,k,h=>by cases h; rfl
 | (i,x) :: ps,rs,k,h=>by
  unfold partsE at h; unfold pb;split at h
  ·cases h
  ·rename_i av hx; rw [fe hx]
   split at h
   ·cases h
   ·rename_i ys hy; rw [hy]
    split at h
    ·cases h
    ·rename_i rs' hrs; cases h; exact Fw hrs
theorem V7 {t:TypeId} {ps:List (Nat × Operand)} (h:buildE P nn d t ps e = some E1):ah ct none (jx P nn d t ps) e (fun x=>x = E1):=by
 unfold buildE at h; unfold jx;split at h
 ·cases h
 ·rename_i ti ht; rw [ht]
  dsimp only;split at h
  ·cases h
  ·rename_i f fs hf; rw [hf]
   dsimp only;split at h
   ·cases h
   ·rename_i pl hpl; rw [hpl]
    dsimp only;split at h
    ·cases h
    ·rename_i rs hrs; rw [Fw hrs]
     split at h
     ·rename_i ys hys; rw [hys]; exact fu h
     ·cases h
theorem Bb:∀ {ps:List (Nat × Operand)} {n:Nat} {x:List (Nat × List CK) × List (Option (Nat × aj × C))} {k:List (Nat × List CK) → List (Option (Nat × aj × C)) → Q},oPartsE e n ps = some x → ah ct none (lb n ps k) e K = ah ct none (k x.1 x.2) e K
 | [],n,x,k,h=>by cases h; rfl
 | (i,y) :: ps,n,x,k,h=>by
  unfold oPartsE at h; unfold lb;dsimp only at h;split at h
  ·cases h
  ·rename_i av hx; rw [fe hx]
   unfold oPartE at h;split at h
   ·cases h
   ·rename_i x' hx'
    split at h
    ·dsimp only;split at h
     ·rename_i hc; rw [if_pos hc]
      split at h
      ·rename_i c hcs; rw [qr hcs]
       split at h
       ·rename_i hone; dsimp only; rw [if_pos hone]; cases h; exact Bb hx'
       ·cases h
      ·cases h
     ·cases h
    ·rename_i hne
     split at h
     ·rename_i ys hys; cases h
      split
      ·exact (hne _ _ _ _ _ rfl).elim
      ·rw [hys]; exact Bb hx'
     ·cases h
theorem Rw {t:TypeId} {ps:List (Nat × Operand)} (h:buildOE P nn d t ps e = some E1):ah ct none (ib P nn d t ps) e (fun x=>x = E1):=by
 unfold buildOE at h; unfold ib;split at h
 ·cases h
 ·rename_i ti ht; rw [ht]
  dsimp only;split at h
  ·cases h
  ·rename_i f fs hf; rw [hf]
   dsimp only;split at h
   ·cases h
   ·rename_i pl hpl; rw [hpl]
    dsimp only;split at h
    ·cases h
    ·rename_i x hx; rw [Bb hx]
     split at h
     ·cases h
     ·rename_i ys hys; rw [hys]
      dsimp only;split at h
      ·cases h
      ·dsimp only;split at h
       ·rename_i hc; rw [if_pos hc]; cases h; refine ⟨fun _ hh=>(by cases hh),?_⟩; rw [upds,i9]; rfl
       ·cases h
theorem jb4 {t:TypeId} {ps:List (Nat × Operand)} (h:bldE P nn d t ps e = some E1):ah ct none (Mm P nn d t ps) e (fun x=>x = E1):=by
 unfold bldE at h; unfold Mm
 have key:∀ (l:List (Nat × Operand)) (b:Bool),ownAnyE e l = some b → ah ct none (mo l (ib P nn d t ps) (jx P nn d t ps)) e (fun x=>x = E1) = ah ct none (if b = true then ib P nn d t ps else jx P nn d t ps) e (fun x=>x = E1):=by
  intro l
  induction l with
  | nil=>intro b hb; cases hb; rfl
  | cons y l ih =>
   intro b hb;unfold ownAnyE at hb; unfold mo;split at hb
   ·cases hb
   ·rename_i av hx; rw [fe hx]
    split at hb
    ·rename_i hr; cases hb; rw [if_pos hr,if_pos rfl]
    ·rename_i hr; rw [if_neg hr]; exact ih b hb
 split at h
 ·cases h
 ·rename_i b hb
  rw [key ps b hb];split at h
  ·rename_i hbt; rw [if_pos hbt]; exact Rw h
  ·rename_i hbt; rw [if_neg hbt]; exact V7 h
theorem My {k:Nat} {av2:AV} {kq:List (List C) → Q} {kb:Nat → aj → List C → Q} {r:Vq} (h:srcE e k av2 = some r):ah ct none (Dt k av2 kq kb) e K = ah ct none (match r with
 | .flat rows2=>kq rows2
 | .row s p row=>kb s p row) e K:=by
 unfold srcE at h; unfold Dt;split at h
 ·cases h; rfl
 ·dsimp only at h ⊢;split at h
  ·rename_i hc; cases h; rw [if_pos hc]
  ·cases h
 ·dsimp only at h ⊢;split at h
  ·rename_i hc; rw [if_pos hc,Nm]
   split at h
   ·rename_i hsub; rw [hsub]; dsimp only
    split at h
    ·rename_i hk; rw [if_pos hk]
     split at h
     ·rename_i hok; cases h; rw [if_pos hok]
     ·rename_i hok; rw [if_neg hok]
      split at h
      ·split at h
       ·rename_i hone; cases h; dsimp only; rw [if_pos hone]
       ·cases h
      ·cases h
    ·cases h
   ·cases h
  ·cases h
 ·cases h
theorem Ry {s:TypeId} {x y:Operand} (h:appendE P nn d s x y e = some E1):ah ct none (py P nn d s x y) e (fun x=>x = E1):=by
 unfold appendE at h; unfold py;split at h
 ·cases h
 ·rename_i ti ht; rw [ht]; try dsimp only
  split at h
  ·cases h
  ·rename_i el hel; rw [hel]; try dsimp only
   split at h
   ·cases h
   ·rename_i te hte; rw [hte]; try dsimp only
    split at h
    ·cases h
    ·rename_i dd; try dsimp only
     split at h
     ·cases h
     ·rename_i av hx; rw [fe hx]
      split at h
      ·cases h
      ·rename_i av2 hy; rw [fe hy]
       unfold apE at h;split at h
       ·show ah ct none (Dt te.size av2 _ _) e _;unfold apNilE at h;split at h
        ·rename_i rows2 hsrc; rw [My hsrc]; try dsimp only
         split at h
         ·rename_i hc; rw [if_pos hc]; exact ns h
         ·cases h
        ·rename_i s2 p2 row hsrc; rw [My hsrc]; try dsimp only
         split at h
         ·rename_i hc; cases h; rw [if_pos hc,zm]
         ·cases h
        ·cases h
       ·try dsimp only
        split at h
        ·rename_i hc; rw [if_pos hc,Nm]
         split at h
         ·rename_i hsub; rw [hsub]; try dsimp only
          split at h
          ·rename_i hk; rw [if_pos hk]
           unfold apOwnE at h;split at h
           ·rename_i rows2 hsrc; rw [My hsrc]; try dsimp only
            split at h
            ·rename_i hc; rw [if_pos hc]; exact ns h
            ·cases h
           ·rename_i s2 p2 row hsrc; rw [My hsrc]; try dsimp only
            split at h
            ·rename_i hc; cases h; rw [if_pos hc,zm]
            ·cases h
           ·cases h
          ·cases h
         ·cases h
        ·cases h
       ·cases h
theorem vt {ty:TypeId} {n:Nat} {ps:List (Nat × Operand)} (h:buildSliceE P nn d ty n ps e = some E1):ah ct none (fw P nn d ty n ps) e (fun x=>x = E1):=by
 unfold buildSliceE at h; unfold fw;split at h
 ·cases h
 ·rename_i ti ht; rw [ht]; try dsimp only
  split at h
  ·cases h
  ·rename_i el hel; rw [hel]; try dsimp only
   split at h
   ·cases h
   ·rename_i te hte; rw [hte]; try dsimp only
    split at h
    ·rename_i hc; rw [if_pos hc]
     split at h
     ·cases h
     ·rename_i rs hrs; rw [Fw hrs]
      split at h
      ·rename_i ys hys; rw [hys]; try dsimp only
       split at h
       ·rename_i hf; rw [if_pos hf]; exact ns h
       ·cases h
      ·cases h
    ·cases h
theorem Hq {el:TypeId} {te:TI} {av:AV} (h:moveSliceE nn d el te e av = some E1):ah ct none (ir nn d el te av) e (fun x=>x = E1):=by
 unfold moveSliceE at h; unfold ir;split at h
 ·try dsimp only
  split at h
  ·rename_i hc; rw [if_pos hc]
   split at h
   ·cases h
   ·rename_i cs hcs; rw [qr hcs]
    split at h
    ·rename_i hone; rw [if_pos hone]
     split at h
     ·rename_i hf; rw [if_pos hf]; exact ns h
     ·rename_i hf; cases h; rw [if_neg hf,zm]
    ·cases h
  ·cases h
 ·cases h
theorem jb1 {ty:TypeId} {x:Operand} (h:bs1E P nn d ty x e = some E1):ah ct none (Q6 P nn d ty x) e (fun x=>x = E1):=by
 unfold bs1E at h; unfold Q6;split at h
 ·cases h
 ·rename_i ti ht; rw [ht]; dsimp only
  split at h
  ·cases h
  ·rename_i el hel; rw [hel]; dsimp only
   split at h
   ·cases h
   ·rename_i te hte; rw [hte]; dsimp only
    split at h
    ·cases h
    ·rename_i av hx; rw [fe hx]
     split at h
     ·rename_i hp; rw [hp]; exact vt h
     ·rename_i hp; rw [hp]; dsimp only
      split at h
      ·rename_i hc; rw [if_pos hc]; exact Hq h
      ·cases h
theorem jde {ty:TypeId} {n:Nat} {ps:List (Nat × Operand)} (h:bsE P nn d ty n ps e = some E1):ah ct none (bsQ P nn d ty n ps) e (fun x=>x = E1):=by
 unfold bsE at h; unfold bsQ;split at h
 ·exact jb1 h
 ·rename_i n' ps' hne
  split
  ·exact (hne _ rfl rfl).elim
  ·exact vt h
theorem Yd {x:Option Operand} {k:Option Int → Q} {n:Option Int} (h:bndE e x = some n):ah ct none (J3 x k) e K = ah ct none (k n) e K:=by
 unfold bndE at h; unfold J3;split at h
 ·cases h; rfl
 ·split at h
  ·cases h
  ·rename_i m hm; cases h; exact Mz hm
theorem V5 {s:TypeId} {x:Operand} {lo hi:Option Operand} (h:sliceE P nn d s x lo hi e = some E1):ah ct none (ub P nn d s x lo hi) e (fun x=>x = E1):=by
 unfold sliceE at h; unfold ub;split at h
 ·cases h
 ·rename_i ti ht; rw [ht]; try dsimp only
  split at h
  ·cases h
  ·rename_i el hel; rw [hel]; try dsimp only
   split at h
   ·cases h
   ·rename_i te hte; rw [hte]; try dsimp only
    split at h
    ·cases h
    ·rename_i av hx; rw [fe hx]
     split at h
     ·cases h
     ·rename_i l hl; rw [Yd hl]
      split at h
      ·cases h
      ·rename_i m hm; rw [Yd hm]
       unfold slAvE at h;split at h
       ·try dsimp only
        split at h
        ·rename_i hc; rw [if_pos hc]; exact fu h
        ·cases h
       ·try dsimp only
        split at h
        ·cases h
        ·try dsimp only
         split at h
         ·rename_i hc; rw [if_pos hc,Nm]
          split at h
          ·rename_i hsub; rw [hsub]; try dsimp only
           split at h
           ·rename_i hk; rw [if_pos hk]; exact ns h
           ·cases h
          ·cases h
         ·cases h
       ·cases h
theorem jby {mx:Bool} {x y:Operand} (h:mmE nn d mx x y e = some E1):ah ct none (mmQ nn d mx x y) e (fun x=>x = E1):=by
 unfold mmE at h; unfold mmQ;split at h
 ·cases h
 ·rename_i av hx; rw [fe hx]
  split at h
  ·cases h
  ·rename_i av2 hy; rw [fe hy]
   unfold mmAvE at h;split at h
   ·exact fu h
   ·cases h
theorem Hp {no:List Nat}:∀ {rs:List (Nat × Nat)} {css:List (List C)} {k:List (List C) → Q},(rs.all fun x=>!no.contains x.1) = true → wholesE e rs = some css → ah ct none (mg no rs k) e K = ah ct none (k css) e K
 | [],css,k,_,h=>by cases h; rfl
 | (r,g) :: rs,css,k,hno,h=>by
  unfold wholesE at h; unfold mg;rw [List.all_cons,Bool.and_eq_true] at hno;rw [if_pos (by simpa using hno.1),Gd];split at h
  ·cases h
  ·rename_i t ys hw
   rw [hw];dsimp only;split at h
   ·cases h
   ·rename_i css' hc
    cases h;rw [Hp hno.2 hc]
theorem Rv:∀ {xs:List Operand} {rs:List (Nat × Nat)} {k:List (Nat × Nat) → Q},capsE e xs = some rs → ah ct none (zx xs k) e K = ah ct none (k rs) e K
 | [],rs,k,h=>by cases h; rfl
 | x :: xs,rs,k,h=>by
  unfold capsE at h; unfold zx;split at h
  ·cases h
  ·rename_i rg hb
   cases hx:opE e x with
   | none=>rw [hx] at hb; cases hb
   | some av =>
    rw [hx] at hb;have hb:isBoxP av = some rg:=hb;rw [fe hx,hb];dsimp only;split at h
    ·cases h
    ·rename_i l hl
     cases h;rw [Rv hl]
theorem Y9 {g:FuncId} {caps:List Operand} (h:mkFnE nn d g caps e = some E1):ah ct none (Ch nn d g caps) e (fun x=>x = E1):=by
 unfold mkFnE at h; unfold Ch;split at h
 ·cases h
 ·rename_i rs hc; rw [Rv hc]; exact fu h
theorem jbx (h:opX P nn o.dst o.op e = some E1):ah ct none (opQ P nn o) e (fun x=>x = E1):=by
 unfold opX at h; unfold opQ;split at h <;> rename_i ho <;> (try rw [ho])
 ·exact jdd h
 ·exact Rx h
 ·exact Y8 h
 ·exact V8 h
 ·exact jb2 h
 ·exact Zb h
 ·exact V4 h
 ·exact jb5 h
 ·exact jdc h
 ·exact Hs h
 ·exact Hr h
 ·exact Za h
 ·exact O9 h
 ·exact jb4 h
 ·exact jbz h
 ·exact Y9 h
 ·exact jde h
 ·dsimp only;split at h
  ·rename_i hs; rw [if_pos hs]; exact Ry h
  ·cases h
 ·exact V5 h
 ·exact jby h
 ·exact jby h
 ·cases h
theorem Yc {s:Nat} {b:Option Bool} {k:Option Bool → Q} (h:gopE e s = some b):ah ct none (.slot s fun av=>uz av k) e K = ah ct none (k b) e K:=by
 rw [Bz];unfold gopE at h
 generalize slotView s (e.gen s) (e.s s) = av at h
 unfold gvE at h; unfold uz;split at h <;> cases h <;> rfl
theorem X0 {s:Nat} {b:Bool} (h:bopE e (.tmp s) = some b):gopE e s = some (some b):=by
 unfold bopE opE at h;dsimp only at h;unfold gopE
 generalize slotView s (e.gen s) (e.s s) = av at h
 unfold boolE at h;split at h <;> cases h;rfl
theorem Y7 (h:skipE nn d e = some E1):ah ct none (Ib nn d) e (fun x=>x = E1):=by
 unfold skipE at h; unfold Ib;split at h
 ·exact ns h
 ·cases h; rw [zm]; rfl
theorem x_g (h:gX P nn ds o e = some E1):ah ct none (gQ P nn ds o) e (fun x=>x = E1):=by
 unfold gX at h; unfold gQ;split at h
 ·rename_i hg; rw [hg]; exact jbx h
 ·rename_i j want hg; rw [hg]
  dsimp only;split at h
  ·rename_i dj hdj; rw [hdj]
   dsimp only;split at h
   ·cases h
   ·rename_i b hb
    refine Eq.mpr (Yc hb) ?_;split at h
    ·rename_i hw; rw [if_pos hw]; exact jbx h
    ·rename_i hw; rw [if_neg hw]; exact Y7 h
  ·cases h
def At:Op → Bool
 | .call ⟨.value _,_,_⟩=>false
 | _=>true
theorem cr {l:List Oper} (_:At o.op = true) (h:gX P nn ds o e = some E1) (h2:ej P nn ds l E1 K):ej P nn ds (o :: l) e K:=Fu (x_g h) h2
theorem Vn {l:List Oper} (h:gX P nn ds o e = some E1) (h2:ej P nn ds l E1 K):ej P nn ds (o :: l) e K:=Fu (x_g h) h2
def argE (e:Env):AV → Option Arg
 | .c x=>some (.c x)
 | .agg xs=>some (.agg xs)
 | .ref r g p ag n=>if 0 < n then (match subsE e r g p n with
  | none=>none
  | some cs=>match ag,cs with
   | true,cs=>some (.agg cs)
   | false,[c]=>some (.c c)
   | _,_=>none) else none
 | .fn g css=>some (.fn g css)
 | .rp xs=>some (.rp xs)
 | .clo g rs=>(match wholesE e rs with
  | none=>none
  | some css=>some (.fn g css))
 | _=>none
def argsE (e:Env):List Operand → Option (List Arg)
 | []=>some []
 | x :: xs=>match opE e x with
  | none=>none
  | some av=>match argE e av with
   | none=>none
   | some a=>match argsE e xs with
    | none=>none
    | some as=>some (a :: as)
def roE (e:Env):AV → Bool
 | .ref r g p _ n=>(match subsE e r g p n with
  | none=>false
  | some cs=>cs.all C.freeB)
 | .clo _ _=>false
 | _=>true
def rosE (e:Env):List Operand → Bool
 | []=>true
 | x :: xs=>(match opE e x with
  | none=>false
  | some av=>roE e av) && rosE e xs
def kp (e:Env) (r:Nat) (x:Operand):Bool:=match opE e x with
 | some (.ref r' _ _ _ _)=>r' != r
 | some (.clo _ rs)=>rs.all fun x=>x.1 != r
 | _=>true
def Ix (no:List Nat):AV → Bool
 | .ref r' _ _ _ _=>!no.contains r'
 | .clo _ rs=>rs.all fun x=>!no.contains x.1
 | _=>true
theorem Ye {no:List Nat} {av:AV} {a:Arg} {k:Bool → Arg → Q} (hno:Ix no av = true) (h:argE e av = some a):ah ct none (J8 no av k) e K = ah ct none (k (roE e av) a) e K:=by
 unfold argE at h; unfold J8 roE;split at h
 ·cases h; rfl
 ·cases h; rfl
 ·dsimp only;split at h
  ·rename_i hn
   rw [if_pos ⟨hn,by simpa [Ix] using hno⟩];split at h
   ·cases h
   ·rename_i cs hs; rw [qr hs]
    split at h
    ·cases h; simp only [hs]
    ·cases h; simp only [hs,List.all_cons,List.all_nil,Bool.and_true]
    ·cases h
  ·cases h
 ·cases h; rfl
 ·cases h; rfl
 ·dsimp only;split at h
  ·cases h
  ·rename_i css hc; cases h; rw [Hp hno hc]
 ·cases h
theorem Et (av:AV):Ix [] av = true:=by
 cases av with
 | clo g rs=>show (rs.all _) = true; simp
 | _=>rfl
theorem Es {no:List Nat} {x:Operand} {av:AV} (h:∀ r,no.contains r = true → kp e r x = true) (hx:opE e x = some av):Ix no av = true:=by
 cases av with
 | ref r' g p ag n =>
  show (!no.contains r') = true
  cases hc:no.contains r' with
  | false=>rfl
  | true =>
   have h1:=h _ hc;unfold kp at h1;rw [hx] at h1;simp at h1
 | clo g rs =>
  show (rs.all _) = true;rw [List.all_eq_true];intro x hxm
  cases hc:no.contains x.1 with
  | false=>rfl
  | true =>
   have h1:=h _ hc;unfold kp at h1;rw [hx] at h1;have h2:=List.all_eq_true.1 h1 x hxm;simp at h2
 | _=>rfl
theorem xt {no:List Nat}:∀ {xs:List Operand} {as:List Arg} {k:Bool → List Arg → Q},(∀ r,no.contains r = true → xs.all (kp e r) = true) → argsE e xs = some as → ah ct none (qk no xs k) e K = ah ct none (k (rosE e xs) as) e K
 | [],as,k,_,h=>by cases h; rfl
 | x :: xs,as,k,hno,h=>by
  unfold argsE at h; unfold qk rosE;split at h
  ·cases h
  ·rename_i av hx; rw [fe hx]
   split at h
   ·cases h
   ·rename_i a ha
    have hno1:Ix no av = true:=Es (fun r hr=>by have:=hno r hr; rw [List.all_cons,Bool.and_eq_true] at this; exact this.1) hx;rw [Ye hno1 ha];split at h
    ·cases h
    ·rename_i as' has; cases h; rw [xt (fun r hr=>by have:=hno r hr; rw [List.all_cons,Bool.and_eq_true] at this; exact this.2) has]
theorem Dg {av:AV} {a:Arg} (h:argE e av = some a):isBoxP av = none ∧ a.isIo = false:=by
 unfold argE at h;split at h
 ·cases h; exact ⟨rfl,rfl⟩
 ·cases h; exact ⟨rfl,rfl⟩
 ·split at h
  ·split at h
   ·cases h
   ·split at h
    ·cases h; exact ⟨rfl,rfl⟩
    ·cases h; exact ⟨rfl,rfl⟩
    ·cases h
  ·cases h
 ·cases h; exact ⟨rfl,rfl⟩
 ·cases h; exact ⟨rfl,rfl⟩
 ·split at h
  ·cases h
  ·cases h; exact ⟨rfl,rfl⟩
 ·cases h
theorem me {xs:List Operand} {as:List Arg} (h:argsE e xs = some as):(as[0]?).map Arg.isIo ≠ some true:=by
 cases xs with
 | nil=>cases h; simp
 | cons x xs =>
  unfold argsE at h;split at h
  ·cases h
  ·split at h
   ·cases h
   ·rename_i a ha
    split at h
    ·cases h
    ·cases h; simp [(Dg ha).2]
theorem Kh {d:Nat} {f:FuncId} {xs:List Operand} {as:List Arg} (h:argsE e xs = some as) (hq:ah ct none (.call f (rosE e xs) as (Ad d)) e K):ah ct none (qg nn d f xs) e K:=by
 cases xs with
 | nil=>cases h; exact hq
 | cons x xs =>
  unfold qg;dsimp only;unfold argsE at h;split at h
  ·cases h
  ·rename_i av hx; rw [fe hx]
   split at h
   ·cases h
   ·rename_i a ha
    rw [(Dg ha).1];dsimp only;refine .inl ?_;rw [Ye (Et _) ha];split at h
    ·cases h
    ·rename_i as' has
     cases h;rw [xt (fun r hr=>by cases hr) has];unfold rosE at hq;simp only [hx] at hq;exact hq
theorem Rr {d r g:Nat} {f:FuncId} {t:TypeId} {ys:List C} {x:Operand} {xs:List Operand} {as:List Arg} (hx:boxpE (opE e x) = some (r,g)) (hdr:d ≠ r) (hw:e.whole r g = some (t,ys)) (hno:xs.all (kp e r) = true) (h:argsE e xs = some as) (hq:ah ct none (.call f (rosE e xs) (.io t ys :: as) (ioU r d)) e K):ah ct none (qg nn d f (x :: xs)) e K:=by
 unfold qg;dsimp only
 cases hav:opE e x with
 | none=>rw [hav] at hx; cases hx
 | some av =>
  rw [hav] at hx;have hx:isBoxP av = some (r,g):=hx;rw [fe hav,hx];dsimp only;rw [if_pos hdr,Gd,hw];dsimp only;refine .inl ?_;rw [xt (fun r' hr'=>by simp at hr'; subst hr'; exact hno) h];exact hq
theorem Rs {d r g r2 g2 n:Nat} {t:TypeId} {ys:List C} {ag:Bool} {cs:List C} {f:FuncId} {x x2:Operand} {xs:List Operand} {as:List Arg} (hx:boxpE (opE e x) = some (r,g)) (hdr:d ≠ r) (hw:e.whole r g = some (t,ys)) (hx2:opE e x2 = some (.ref r2 g2 [(0,0)] ag n)) (hn:0 < n) (hag:ag = false → n = 1) (hdr2:d ≠ r2) (hrr:r ≠ r2) (hs:subsE e r2 g2 [(0,0)] n = some cs)
 (hno:xs.all (kp e r) = true) (hno2:xs.all (kp e r2) = true) (hro:rosE e xs = true) (h:argsE e xs = some as)
 (hq:ah ct none (.call f true (.io t ys :: .own ag cs :: as) (fun res=>holesU r2 [(0,0)] n ++ ioU r d res)) e K):ah ct none (qg nn d f (x :: x2 :: xs)) e K:=by
 unfold qg;dsimp only
 cases hav:opE e x with
 | none=>rw [hav] at hx; cases hx
 | some av =>
  rw [hav] at hx;have hx:isBoxP av = some (r,g):=hx;rw [fe hav,hx];dsimp only;rw [if_pos hdr,Gd,hw];dsimp only;refine .inr ⟨rfl,?_⟩;rw [fe hx2];unfold Jh;dsimp only;rw [if_pos ⟨hn,by simp; exact ⟨fun hh=>hrr hh.symm,fun hh=>hdr2 hh.symm⟩,rfl,hag⟩,qr hs,xt (fun r' hr'=>by simp at hr'; rcases hr' with rfl | rfl <;> assumption) h,if_pos hro];exact hq
def ff (o:Oper) (d:Nat) (f:FuncId) (args:List Operand):Prop:=o.dst = some d ∧ ∃ ts,o.op = .call ⟨.value (.func f),args.toArray,ts⟩
theorem fb {l:List Oper} {s:Nat} {f:FuncId} {args:List Operand} {as:List Arg} {Post:Res → Prop} (hg:o.guard = none) (hc:ff o s f args) (hd:s < nn) (hm:ap P f = true) (ha:argsE e args = some as) (hp:DCalls P f as Post) (h2:∀ r,Post r → ej P nn ds l (e.set s (resAV r) fun i=>resCon r (0,i)) K):ej P nn ds (o :: l) e K:=by
 obtain ⟨h1,ts,h3⟩:=hc;refine jz (R:=fun e'=>∃ r',Post r' ∧ e' = e.set s (resAV r') fun i=>resCon r' (0,i)) ?_ (fun e' ⟨r',hr,he⟩=>he ▸ h2 r' hr);unfold gQ; rw [hg];dsimp only;unfold opQ; rw [h3];show ah _ _ (kh P nn o.dst f args) _ _;unfold kh; rw [h1];dsimp only;rw [if_pos ⟨hd,hm⟩];refine Kh ha ?_;rw [ye];exact ⟨Post,by rw [gt (me ha)]; exact .inl hp,fun r' hr=>⟨r',hr,rfl⟩⟩
theorem Mn {l:List Oper} {s j dj:Nat} {want:Bool} {f:FuncId} {args:List Operand} {as:List Arg} {Post:Res → Prop} (hg:o.guard = some (j,want)) (hj:ds[j]? = some (some dj)) (hb:bopE e (.tmp dj) = some want) (hc:ff o s f args) (hd:s < nn) (hm:ap P f = true) (ha:argsE e args = some as) (hp:DCalls P f as Post) (h2:∀ r,Post r → ej P nn ds l (e.set s (resAV r) fun i=>resCon r (0,i)) K):ej P nn ds (o :: l) e K:=by
 obtain ⟨h1,ts,h3⟩:=hc;refine jz (R:=fun e'=>∃ r',Post r' ∧ e' = e.set s (resAV r') fun i=>resCon r' (0,i)) ?_ (fun e' ⟨r',hr,he⟩=>he ▸ h2 r' hr);unfold gQ; rw [hg];dsimp only;rw [hj];dsimp only;refine Eq.mpr (Yc (X0 hb)) ?_;rw [if_pos rfl];unfold opQ; rw [h3];show ah _ _ (kh P nn o.dst f args) _ _;unfold kh; rw [h1];dsimp only;rw [if_pos ⟨hd,hm⟩];refine Kh ha ?_;rw [ye];exact ⟨Post,by rw [gt (me ha)]; exact .inl hp,fun r' hr=>⟨r',hr,rfl⟩⟩
theorem Mo {l:List Oper} {s:Nat} {f:FuncId} {args:List Operand} {as:List Arg} {Post:Res → Prop} (hg:o.guard = none) (hc:ff o s f args) (hd:s < nn) (hm:ap P f = true) (ha:argsE e args = some as) (hro:rosE e args = true) (hp:dr P f as Post) (h2:∀ r,Post r → ej P nn ds l (e.set s (resAV r) fun i=>resCon r (0,i)) K):ej P nn ds (o :: l) e K:=by
 obtain ⟨h1,ts,h3⟩:=hc;refine jz (R:=fun e'=>∃ r',Post r' ∧ e' = e.set s (resAV r') fun i=>resCon r' (0,i)) ?_ (fun e' ⟨r',hr,he⟩=>he ▸ h2 r' hr);unfold gQ; rw [hg];dsimp only;unfold opQ; rw [h3];show ah _ _ (kh P nn o.dst f args) _ _;unfold kh; rw [h1];dsimp only;rw [if_pos ⟨hd,hm⟩];refine Kh ha ?_;rw [ye];exact ⟨Post,by rw [gt (me ha)]; exact .inr ⟨hro,hp⟩,fun r' hr=>⟨r',hr,rfl⟩⟩
def fnOf:AV → Option (FuncId × List (List C))
 | .fn g css=>some (g,css)
 | .c (.p (.func (.func g) ⟨[]⟩ ⟨[]⟩))=>some (g,[])
 | _=>none
def fnOp (e:Env) (s:Nat):Option (FuncId × List (List C)):=fnOf (slotView s (e.gen s) (e.s s))
def jdm (o:Oper) (d z:Nat) (args:List Operand):Prop:=o.dst = some d ∧ ∃ ts,o.op = .call ⟨.value (.tmp z),args.toArray,ts⟩
theorem Xk {as:List Arg} {css:List (List C)} (h:(as[0]?).map Arg.isIo ≠ some true):((as ++ css.map Arg.rp)[0]?).map Arg.isIo ≠ some true:=by
 cases as with
 | nil=>cases css <;> simp [Arg.isIo]
 | cons a as=>simpa using h
theorem Ru {s z:Nat} {args:List Operand} {g:FuncId} {css:List (List C)} {as:List Arg} (hd:s < nn) (hz:fnOp e z = some (g,css)) (hm:ap P g = true) (ha:argsE e args = some as) (hq:ah ct none (.call g (rosE e args) (as ++ css.map .rp) (Ad s)) e K):ah ct none (sr P nn (some s) z args) e K:=by
 unfold sr;rw [Bz];unfold fnOp at hz
 generalize slotView z (e.gen z) (e.s z) = av at hz
 unfold fnOf at hz;split at hz
 ·cases hz;dsimp only;rw [if_pos ⟨hd,hm⟩,xt (fun r hr=>by cases hr) ha];exact hq
 ·cases hz;dsimp only;rw [if_pos ⟨hd,hm⟩,xt (fun r hr=>by cases hr) ha];simpa using hq
 ·cases hz
theorem zz {l:List Oper} {s z:Nat} {args:List Operand} {g:FuncId} {css:List (List C)} {as:List Arg} {Post:Res → Prop} (hg:o.guard = none) (hc:jdm o s z args) (hd:s < nn) (hz:fnOp e z = some (g,css)) (hm:ap P g = true) (ha:argsE e args = some as) (hp:DCalls P g (as ++ css.map .rp) Post) (h2:∀ r,Post r → ej P nn ds l (e.set s (resAV r) fun i=>resCon r (0,i)) K):ej P nn ds (o :: l) e K:=by
 obtain ⟨h1,ts,h3⟩:=hc;refine jz (R:=fun e'=>∃ r',Post r' ∧ e' = e.set s (resAV r') fun i=>resCon r' (0,i)) ?_ (fun e' ⟨r',hr,he⟩=>he ▸ h2 r' hr);unfold gQ; rw [hg];dsimp only;unfold opQ; rw [h3];show ah _ _ (sr P nn o.dst z args) _ _;rw [h1];refine Ru hd hz hm ha ?_;rw [ye];exact ⟨Post,by rw [gt (Xk (me ha))]; exact .inl hp,fun r' hr=>⟨r',hr,rfl⟩⟩
theorem z6 {l:List Oper} {s:Nat} {f:FuncId} {x:Operand} {xs:List Operand} {r g:Nat} {t:TypeId} {ys:List C} {as:List Arg} {Post:Res → Prop} (hg:o.guard = none) (hc:ff o s f (x :: xs)) (hd:s < nn) (hm:ap P f = true) (hx:boxpE (opE e x) = some (r,g)) (hsr:s ≠ r) (hw:e.whole r g = some (t,ys)) (hno:xs.all (kp e r) = true) (ha:argsE e xs = some as) (hp:j3 P f t ys as Post ∨ (rosE e xs = true ∧ dr P f (.io t ys :: as) Post)) (h2:∀ res,Post res → ej P nn ds l (upds (ioU r s res) e) K):ej P nn ds (o :: l) e K:=by
 obtain ⟨h1,ts,h3⟩:=hc;refine jz (R:=fun e'=>∃ r',Post r' ∧ e' = upds (ioU r s r') e) ?_ (fun e' ⟨r',hr,he⟩=>he ▸ h2 r' hr);unfold gQ; rw [hg];dsimp only;unfold opQ; rw [h3];show ah _ _ (kh P nn o.dst f (x :: xs)) _ _;unfold kh; rw [h1];dsimp only;rw [if_pos ⟨hd,hm⟩];refine Rr hx hsr hw hno ha ?_;rw [ye];exact ⟨Post,by rw [xr (me ha)]; exact hp,fun r' hr=>⟨r',hr,rfl⟩⟩
theorem Hh {l:List Oper} {s r g r2 g2 n:Nat} {t:TypeId} {ys:List C} {ag:Bool} {cs:List C} {f:FuncId} {x x2:Operand} {xs:List Operand} {as:List Arg} {Post:Res → Prop} (hg:o.guard = none) (hc:ff o s f (x :: x2 :: xs)) (hd:s < nn) (hm:ap P f = true) (hx:boxpE (opE e x) = some (r,g)) (hsr:s ≠ r) (hw:e.whole r g = some (t,ys)) (hx2:opE e x2 = some (.ref r2 g2 [(0,0)] ag n)) (hn:0 < n) (hag:ag = false → n = 1) (hsr2:s ≠ r2) (hrr:r ≠ r2) (hs:subsE e r2 g2 [(0,0)] n = some cs) (hno:xs.all (kp e r) = true) (hno2:xs.all (kp e r2) = true) (hro:rosE e xs = true) (ha:argsE e xs = some as) (hp:tc P f t ys ag cs as Post) (h2:∀ res,Post res → ej P nn ds l (upds (ioU r s res) (e.holes r2 [(0,0)] n)) K):ej P nn ds (o :: l) e K:=by
 obtain ⟨h1,ts,h3⟩:=hc;refine jz (R:=fun e'=>∃ r',Post r' ∧ e' = upds (holesU r2 [(0,0)] n ++ ioU r s r') e) ?_ (fun e' ⟨r',hr,he⟩=>by rw [he,i9,gh]; exact h2 r' hr);unfold gQ; rw [hg];dsimp only;unfold opQ; rw [h3];show ah _ _ (kh P nn o.dst f (x :: x2 :: xs)) _ _;unfold kh; rw [h1];dsimp only;rw [if_pos ⟨hd,hm⟩];refine Rs hx hsr hw hx2 hn hag hsr2 hrr hs hno hno2 hro ha ?_;rw [ye];exact ⟨Post,⟨rfl,hp⟩,fun r' hr=>⟨r',hr,rfl⟩⟩
end
end
section
open Go Go.RowKit
def plen:aj → Nat
 | []=>1
 | p=>p.length
theorem Jz (p:aj) (i:Nat):(a6 p i).length ≤ plen p:=by
 cases p with
 | nil=>unfold a6 plen; split <;> simp
 | cons a p=>unfold a6 plen; split <;> simp
theorem xj (p:aj) (i:Nat):p.length ≤ (a6 p i).length:=by
 unfold a6;split
 ·exact Nat.le_refl _
 ·simp; omega
theorem Ui {st:Stat} {r d d':Nat} (h:st.hB r d = true) (hd:d' ≤ d):st.hB r d' = true:=by
 unfold Stat.hB at h ⊢;rw [List.any_eq_true] at h ⊢;obtain ⟨x,hx,h2⟩:=h;refine ⟨x,hx,?_⟩;simp only [Bool.and_eq_true,decide_eq_true_eq] at h2 ⊢;exact ⟨h2.1,by omega⟩
theorem Ns {st:Stat} {r d d':Nat} (h:st.pB r d = true) (hd:d ≤ d'):st.pB r d' = true:=by
 unfold Stat.pB at h ⊢;rw [List.any_eq_true] at h ⊢;obtain ⟨x,hx,h2⟩:=h;refine ⟨x,hx,?_⟩;simp only [Bool.and_eq_true,decide_eq_true_eq] at h2 ⊢;exact ⟨h2.1,by omega⟩
theorem ol {st:Stat} {r:Nat} {p:aj} (h:st.pB r p.length = true):∀ n,(holesU r p n).all (Upd.okB st) = true
 | 0=>rfl
 | n + 1=>by
  unfold holesU;rw [List.all_append,ol h n];simp only [List.all_cons,List.all_nil,Upd.okB,Bool.true_and,Bool.and_true];exact Ns h (xj _ _)
theorem wq {st:Stat} {r:Nat} {p:aj} (h:st.pB r p.length = true):∀ (ys:List C) i,(putsU r p i ys).all (Upd.okB st) = true
 | [],_=>rfl
 | y :: ys,i=>by
  unfold putsU;simp only [List.all_cons,Upd.okB,wq h ys (i + 1),Bool.and_true];exact Ns h (xj _ _)
theorem sq {st:Stat} {s r:Nat} {p1 p2:aj} (h:st.pB s p1.length = true) (h2:st.pB r p2.length = true):∀ (ys:List C) i,(graftU s p1 r p2 i ys).all (Upd.okB st) = true
 | [],_=>rfl
 | y :: ys,i=>by
  unfold graftU;simp only [List.all_cons,Upd.okB,sq h h2 ys (i + 1),Bool.and_true,Bool.and_eq_true];exact ⟨Ns h (xj _ _),Ns h2 (xj _ _)⟩
def rsO (st:Stat):Operand → Bool
 | .tmp s=>st.rs.contains s
 | _=>true
def wsO (st:Stat):Option Nat → Bool
 | some d=>st.ws.contains d
 | none=>true
def ptrO (st:Stat):Option AV → Bool
 | some (.ptr r _ p _)=>st.hB r (plen p)
 | _=>true
def hdO (st:Stat):Option AV → Bool
 | some (.ref r _ p _ _)=>st.hB r p.length
 | _=>true
def subO (st:Stat):Option AV → Bool
 | some (.ref r _ _ _ _)=>st.rd.contains r
 | some (.clo _ rs)=>rs.all fun x=>st.rd.contains x.1
 | _=>true
def tkO (st:Stat):Option AV → Bool
 | some (.ref r _ p _ _)=>st.pB r p.length
 | _=>true
def putO (st:Stat):Option AV → Bool
 | some (.ptr r _ p _)=>st.pB r p.length
 | _=>true
def noRef:Option AV → Bool
 | some (.ref _ _ _ _ _)=>false
 | _=>true
def exO (st:Stat) (x:Operand) (i:Nat):Bool:=match x with
 | .tmp s=>st.tk.contains (s,i + 1)
 | _=>true
def rowO (st:Stat) (d:Option Nat) (e:Env):Option AV → Bool
 | some (.ref s g p _ _)=>(match e.sub s g p with
  | some (.sl true _ _ rows2)=>km rows2 || (st.pB s (p.length + 1) && (match d with
   | some dd=>st.pB dd 2
   | none=>false))
  | _=>true)
 | _=>true
def elO (st:Stat) (d:Option Nat):Option AV → Bool
 | some (.ref s _ p _ _)=>st.rd.contains s && st.pB s p.length && (match d with
  | some dd=>st.pB dd 2
  | none=>false)
 | _=>true
def bpD (st:Stat) (d:Option Nat):Bool:=match d with
 | some dd=>st.pB dd 1
 | none=>false
def bpO (st:Stat) (d:Option Nat):Option AV → Bool
 | some (.ref s _ p _ _)=>st.rd.contains s && st.pB s p.length && bpD st d
 | _=>true
def tupO (st:Stat) (x:Operand):Option AV → Bool
 | some (.tup ts)=>(match x with
  | .tmp s=>(List.range ts.length).all fun i=>st.tk.contains (s,i + 1)
  | _=>true)
 | _=>true
def bndO (st:Stat) (x:Option Operand):Bool:=match x with
 | none=>true
 | some x=>rsO st x
def opOk (st:Stat) (d:Option Nat) (op:Op) (e:Env):Bool:=match op with
 | .move x=>rsO st x && wsO st d && tupO st x (opE e x)
 | .assign x=>rsO st x && wsO st d && subO st (opE e x) && tkO st (opE e x)
 | .pick c x y=>rsO st c && rsO st x && rsO st y && wsO st d
 | .alloc _=>wsO st d
 | .box _ x=>rsO st x && wsO st d && noRef (opE e x)
 | .load _ x=>rsO st x && wsO st d && ptrO st (opE e x)
 | .store _ x v=>rsO st x && rsO st v && ptrO st (opE e x) && putO st (opE e x) && subO st (opE e v) && tkO st (opE e v)
 | .binOp _ _ x y _=>rsO st x && rsO st y && wsO st d
 | .unOp _ _ x=>rsO st x && wsO st d
 | .fieldAddr _ x _=>rsO st x && wsO st d && ptrO st (opE e x)
 | .indexAddr _ x i=>rsO st x && rsO st i && wsO st d && hdO st (opE e x)
 | .makeSlice _ l c=>rsO st l && rsO st c && wsO st d
 | .extract x i=>rsO st x && wsO st d && exO st x i
 | .build _ ps=>ps.toList.all (fun p=>rsO st p.2) && wsO st d && ps.toList.all (fun p=>bpO st d (opE e p.2))
 | .call ⟨.builtin .len,⟨[x]⟩,⟨[_]⟩⟩=>rsO st x && wsO st d && hdO st (opE e x)
 | .makeFunc (.func _) ⟨[]⟩ caps=>caps.toList.all (rsO st) && wsO st d
 | .buildSlice _ _ ps=>ps.toList.all (fun p=>rsO st p.2 && elO st d (opE e p.2)) && wsO st d
 | .call ⟨.builtin .append,⟨[x,y]⟩,⟨[_,_]⟩⟩=>rsO st x && rsO st y && wsO st d && subO st (opE e x) && tkO st (opE e x) && subO st (opE e y) && rowO st d e (opE e y)
 | .slice _ x lo hi _=>rsO st x && bndO st lo && bndO st hi && wsO st d && subO st (opE e x) && tkO st (opE e x)
 | .call ⟨.builtin .min,⟨[x,y]⟩,_⟩=>rsO st x && rsO st y && wsO st d
 | .call ⟨.builtin .max,⟨[x,y]⟩,_⟩=>rsO st x && rsO st y && wsO st d
 | _=>true
def gOk (st:Stat) (ds:List (Option Nat)) (o:Oper) (e:Env):Bool:=match o.guard with
 | none=>opOk st o.dst o.op e
 | some (j,want)=>match ds[j]? with
  | some (some dj)=>st.rs.contains dj && wsO st o.dst && (match gopE e dj with
   | some b=>!(b == some want) || opOk st o.dst o.op e
   | none=>true)
  | _=>true
section
variable {P:Program} {st:Stat} {nn:Nat} {ct:Cts} {e E1:Env} {d:Option Nat} {ds:List (Option Nat)} {o:Oper} {K:Env → Prop}
theorem Wu (p:aj):p.length ≤ plen p:=by unfold plen; split <;> simp
theorem Bw {a b:Prop} (h:a):(a ∧ b) = b:=propext ⟨fun x=>x.2,fun x=>⟨h,x⟩⟩
theorem Ky {f:Stat → Bool} (h:f st = true):∀ x,some st = some x → f x = true:=fun x hx=>by cases hx; exact h
theorem F8 {s:Nat} {k:AV → Q} (h:st.rs.contains s = true):ah ct (some st) (.slot s k) e K = ah ct (some st) (k (slotView s (e.gen s) (e.s s))) e K:=by rw [ah,M5]; exact Bw (Ky (f:=fun x=>x.rs.contains s) h)
theorem jb9 {r g:Nat} {p:aj} {k:Option Hd → Q} (h:st.hB r p.length = true):ah ct (some st) (.hd r g p k) e K = ah ct (some st) (k (e.hd r g p)) e K:=by rw [ah]; exact Bw (Ky (f:=fun x=>x.hB r p.length) h)
theorem Kz {r g:Nat} {p:aj} {kk:Nat} {k:Option Hd → Q} (h:st.hB r p.length = true):ah ct (some st) (.cell r g p kk k) e K = ah ct (some st) (k (e.cell r g p kk)) e K:=by rw [ah]; exact Bw (Ky (f:=fun x=>x.hB r p.length) h)
theorem Nk {r g:Nat} {p:aj} {k:Option C → Q} (h:st.rd.contains r = true):ah ct (some st) (.sub r g p k) e K = ah ct (some st) (k (e.sub r g p)) e K:=by rw [ah]; exact Bw (Ky (f:=fun x=>x.rd.contains r) h)
theorem Sz {s i:Nat} {k:Option Con → Q} (h:st.tk.contains (s,i + 1) = true):ah ct (some st) (.tcon s i k) e K = ah ct (some st) (k (e.con (s,i + 1))) e K:=by rw [ah]; exact Bw (Ky (f:=fun x=>x.tk.contains (s,i + 1)) h)
theorem Nj {r g:Nat} {k:Option (TypeId × List C) → Q} (h:st.rd.contains r = true):ah ct (some st) (.whole r g k) e K = ah ct (some st) (k (e.whole r g)) e K:=by rw [ah]; exact Bw (Ky (f:=fun x=>x.rd.contains r) h)
theorem Bv {us:List Upd} (h:us.all (Upd.okB st) = true):ah ct (some st) (.ups us) e K = K (upds us e):=by rw [ah]; exact Bw (Ky (f:=fun x=>us.all (Upd.okB x)) h)
theorem fj {x:Operand} {k:AV → Q} {av:AV} (hr:rsO st x = true) (h:opE e x = some av):ah ct (some st) (opd x k) e K = ah ct (some st) (k av) e K:=by
 cases x with
 | tmp s=>simp only [opE,Option.some.injEq] at h; subst h; exact F8 hr
 | const v=>simp only [opE,Option.some.injEq] at h; subst h; rfl
 | func f=>simp only [opE,Option.some.injEq] at h; subst h; rfl
 | global g=>cases h
theorem np {us:List Upd} {av:AV} {cs:Nat → Option Con} (hw:wsO st d = true) (hu:us.all (Upd.okB st) = true) (h:setE nn d us av cs e = some E1):ah ct (some st) (o5 nn d us av cs) e (fun x=>x = E1):=by
 unfold setE at h; unfold o5
 cases d with
 | none=>cases h
 | some d =>
  dsimp only at h ⊢;split at h
  ·rename_i hd; cases h; rw [if_pos hd,Bv (by rw [List.all_append,hu]; simp only [List.all_cons,List.all_nil,Upd.okB,Bool.true_and,Bool.and_true]; exact hw)]
  ·cases h
theorem ft {av:AV} (hw:wsO st d = true) (h:outE nn d av e = some E1):ah ct (some st) (ig nn d av) e (fun x=>x = E1):=by
 unfold outE at h; unfold ig;split at h
 ·rename_i hp; rw [if_pos hp]; exact np hw rfl h
 ·cases h
theorem Rm {x:Operand} (hr:rsO st x = true) (hw:wsO st d = true) (h:moveE nn d x e = some E1):ah ct (some st) (Cg nn d x) e (fun x=>x = E1):=by
 unfold moveE at h; unfold Cg;split at h
 ·cases h
 ·rename_i av hx; rw [fj hr hx]; exact ft hw h
theorem Fk {s:Nat}:∀ {n:Nat},(∀ i,i < n → st.tk.contains (s,i + 1) = true) → (dropsU s n).all (Upd.okB st) = true
 | 0,_=>rfl
 | n + 1,h=>by
  unfold dropsU;rw [List.all_append,Fk fun i hi=>h i (by omega)];simp only [List.all_cons,List.all_nil,Upd.okB,Bool.and_true,Bool.true_and];exact h n (by omega)
theorem Mu {s:Nat}:∀ {n:Nat} {k:List (Option Con) → Q},(∀ i,i < n → st.tk.contains (s,i + 1) = true) → ah ct (some st) (t8 s n k) e K = ah ct (some st) (k (tconsE e s n)) e K
 | 0,k,_=>rfl
 | n + 1,k,h=>by unfold t8 tconsE; rw [Mu fun i hi=>h i (by omega),Sz (h n (by omega))]
theorem jda {x:Operand} (hr:rsO st x = true) (hw:wsO st d = true) (ht:tupO st x (opE e x) = true) (h:mvE nn d x e = some E1):ah ct (some st) (mvQ nn d x) e (fun x=>x = E1):=by
 unfold mvE at h; unfold mvQ;split at h
 ·rename_i s
  dsimp only;rw [F8 hr];unfold mvAE at h;split at h
  ·rename_i ts hts; rw [hts]; dsimp only
   have hk:∀ i,i < ts.length → st.tk.contains (s,i + 1) = true:=fun i hi=>by
    have h1:opE e (.tmp s) = some (slotView s (e.gen s) (e.s s)):=rfl;rw [h1,hts] at ht;exact List.all_eq_true.1 ht i (List.mem_range.2 hi)
   split at h
   ·rename_i hd; rw [if_pos hd,Mu hk]; exact np hw (Fk hk) h
   ·cases h
  ·rename_i hne
   split
   ·rename_i ts hts; exact (hne _ hts).elim
   ·exact ft hw h
 ·rename_i x hne
  split
  ·exact (hne _ rfl).elim
  ·exact Rm hr hw h
theorem Y6 {av:AV} {b:Bool} {k:Bool → Q} (h:boolE av = some b):ah ct (some st) (Dc av k) e K = ah ct (some st) (k b) e K:=by
 unfold boolE at h; split at h <;> cases h; rfl
theorem jbp {av:AV} {n:Int} {k:Int → Q} (h:intE av = some n):ah ct (some st) (Du av k) e K = ah ct (some st) (k n) e K:=by
 unfold intE at h; split at h <;> cases h; rfl
theorem V1 {av:AV} {v:Value} {k:Value → Q} (h:plainE av = some v):ah ct (some st) (uh av k) e K = ah ct (some st) (k v) e K:=by
 unfold plainE at h; split at h <;> cases h; rfl
theorem jbt {x:Operand} {b:Bool} {k:Bool → Q} (hr:rsO st x = true) (h:bopE e x = some b):ah ct (some st) (opd x fun av=>Dc av k) e K = ah ct (some st) (k b) e K:=by
 unfold bopE at h; split at h
 ·cases h
 ·rename_i av hx; rw [fj hr hx]; exact Y6 h
theorem Mw {x:Operand} {b:Int} {k:Int → Q} (hr:rsO st x = true) (h:iopE e x = some b):ah ct (some st) (opd x fun av=>Du av k) e K = ah ct (some st) (k b) e K:=by
 unfold iopE at h; split at h
 ·cases h
 ·rename_i av hx; rw [fj hr hx]; exact jbp h
theorem jbl {x:Operand} {b:Value} {k:Value → Q} (hr:rsO st x = true) (h:popE e x = some b):ah ct (some st) (opd x fun av=>uh av k) e K = ah ct (some st) (k b) e K:=by
 unfold popE at h; split at h
 ·cases h
 ·rename_i av hx; rw [fj hr hx]; exact V1 h
theorem Y2 {c x y:Operand} (hc:rsO st c = true) (hx:rsO st x = true) (hy:rsO st y = true) (hw:wsO st d = true) (h:pickE nn d c x y e = some E1):ah ct (some st) (Ep nn d c x y) e (fun x=>x = E1):=by
 unfold pickE at h; unfold Ep;split at h
 ·cases h
 ·rename_i b hb; rw [jbt hc hb]; exact Rm (by split <;> assumption) hw h
theorem xq {r g:Nat} {p:aj} (hd:st.rd.contains r = true):∀ {n:Nat} {cs:List C} {k:List C → Q},subsE e r g p n = some cs → ah ct (some st) (nx r g p n k) e K = ah ct (some st) (k cs) e K
 | 0,cs,k,h=>by cases h; rfl
 | n + 1,cs,k,h=>by
  unfold subsE at h; unfold nx;split at h
  ·cases h
  ·rename_i cs0 h0
   split at h
   ·cases h
   ·rename_i c hc; cases h; rw [xq hd h0,Nk hd,hc]
theorem Al {r g:Nat} {p:aj} {kk:Nat} (hb:st.hB r (plen p) = true):∀ {n:Nat} {cs:List Hd} {k:List Hd → Q},cellsE e r g p kk n = some cs → ah ct (some st) (pw r g p kk n k) e K = ah ct (some st) (k cs) e K
 | 0,cs,k,h=>by cases h; rfl
 | n + 1,cs,k,h=>by
  unfold cellsE at h; unfold pw;split at h
  ·cases h
  ·rename_i cs0 h0
   split at h
   ·cases h
   ·rename_i c hc; cases h; rw [Al hb h0,Kz (Ui hb (Jz _ _)),hc]
theorem Rp {x:Operand} (hr:rsO st x = true) (hw:wsO st d = true) (hs:subO st (opE e x) = true) (ht:tkO st (opE e x) = true) (h:assignE nn d x e = some E1):ah ct (some st) (ta nn d x) e (fun x=>x = E1):=by
 unfold assignE at h; unfold ta;split at h
 ·cases h
 ·rename_i av hx; rw [fj hr hx]; rw [hx] at hs ht
  unfold takeE at h;split at h
  ·dsimp only;split at h
   ·rename_i hc; rw [if_pos hc]
    split at h
    ·cases h
    ·rename_i cs hcs; rw [xq hs hcs]; exact np hw (ol ht _) h
   ·cases h
  ·rename_i hne
   split
   ·exact (hne _ _ _ _ _ rfl).elim
   ·exact ft hw h
theorem V3 {t:TypeId} (hw:wsO st d = true) (h:allocE P nn d t e = some E1):ah ct (some st) (vp P nn d t) e (fun x=>x = E1):=by
 unfold allocE at h; unfold vp;split at h
 ·cases h
 ·rename_i ti ht; rw [ht]; exact np hw rfl h
theorem jbs {t:TypeId} {x:Operand} (hr:rsO st x = true) (hw:wsO st d = true) (hnr:noRef (opE e x) = true) (h:boxE P nn d t x e = some E1):ah ct (some st) (Da P nn d t x) e (fun x=>x = E1):=by
 unfold boxE at h; unfold Da;split at h
 ·cases h
 ·rename_i ti ht; rw [ht]
  split at h
  ·cases h
  ·rename_i av hx; dsimp only; rw [fj hr hx]
   rw [hx] at hnr;split at h
   ·rename_i xs hxs; rw [hxs]; exact np hw rfl h
   ·split at h
    ·cases h
    ·split at h
     ·cases hnr
     ·cases h
theorem Y5 {t:TypeId} {x:Operand} (hr:rsO st x = true) (hw:wsO st d = true) (hp:ptrO st (opE e x) = true) (h:loadE P nn d t x e = some E1):ah ct (some st) (Cl P nn d t x) e (fun x=>x = E1):=by
 unfold loadE at h; unfold Cl;split at h
 ·cases h
 ·rename_i ti ht; rw [ht]
  split at h
  ·cases h
  ·rename_i av hx; dsimp only; rw [fj hr hx]; rw [hx] at hp
   unfold ldE at h;split at h
   ·dsimp only;split at h
    ·rename_i ha; rw [if_pos ha]
     split at h
     ·cases h
     ·rename_i hs hcs; rw [Al hp hcs]
      split at h
      ·rename_i xs hr; rw [hr]; exact ft hw h
      ·rename_i hr; rw [hr]; exact ft hw h
    ·rename_i ha; rw [if_neg ha,Kz (Ui hp (Wu _))]
     split at h
     ·rename_i hc; rw [hc]; exact ft hw h
     ·rename_i hc; rw [hc]; exact ft hw h
     ·rename_i hc; rw [hc]; exact ft hw h
     ·cases h
   ·dsimp only;split at h
    ·rename_i ha; rw [if_pos ha]
     split at h
     ·rename_i hl; rw [if_pos hl]; exact ft hw h
     ·cases h
    ·rename_i ha; rw [if_neg ha]
     split at h
     ·exact ft hw h
     ·cases h
   ·cases h
theorem Vz {t:TypeId} {x v:Operand} (hr:rsO st x = true) (hrv:rsO st v = true) (hp:ptrO st (opE e x) = true) (hq:putO st (opE e x) = true) (hsu:subO st (opE e v) = true) (htk:tkO st (opE e v) = true) (h:storeE P d t x v e = some E1):ah ct (some st) (ua P d t x v) e (fun x=>x = E1):=by
 unfold storeE at h; unfold ua;split at h
 ·cases h
 ·split at h
  ·cases h
  ·rename_i ti ht; rw [ht]
   split at h
   ·cases h
   ·rename_i av hx
    split at h
    ·cases h
    ·rename_i av2 hv
     dsimp only;rw [fj hr hx,fj hrv hv]; rw [hx] at hp hq; rw [hv] at hsu htk;unfold stE at h;split at h
     ·dsimp only;split at h
      ·rename_i ys hys; rw [hys]
       dsimp only;split at h
       ·rename_i hl; rw [if_pos hl]
        split at h
        ·cases h
        ·rename_i hcs; cases h; rw [Al hp hcs,Bv (wq hq _ _)]
       ·cases h
      ·rename_i hys; rw [hys]
       split at h
       ·dsimp only;split at h
        ·rename_i hl; rw [if_pos hl]
         split at h
         ·cases h
         ·rename_i hcs; rw [Al hp hcs]
          split at h
          ·cases h
          ·rename_i cs hs; rw [xq hsu hs]
           split at h
           ·rename_i ha; cases h; rw [if_pos ha,Bv (by rw [List.all_append,wq hq,sq htk hq]; rfl)]
           ·cases h
        ·cases h
       ·cases h
     ·cases h
theorem jbv {op:BinOp} {ty:TypeId} {x y:Operand} (hrx:rsO st x = true) (hry:rsO st y = true) (hw:wsO st d = true) (h:binE P nn d op ty x y e = some E1):ah ct (some st) (Rb P nn d op ty x y) e (fun x=>x = E1):=by
 unfold binE at h; unfold Rb;split at h
 ·cases h
 ·rename_i u hu; rw [fj hrx hu]
  split at h
  ·cases h
  ·rename_i v hv; rw [fj hry hv]
   split at h
   ·cases h
   ·rename_i z hz; rw [hz]; exact ft hw h
theorem jc9 {op:UnOp} {x:Operand} (hr:rsO st x = true) (hw:wsO st d = true) (h:unE nn d op x e = some E1):ah ct (some st) (unQ nn d op x) e (fun x=>x = E1):=by
 unfold unE at h; unfold unQ;split at h
 ·cases h
 ·rename_i u hu; rw [jbl hr hu]
  split at h
  ·cases h
  ·rename_i z hz; rw [hz]; exact ft hw h
theorem Ho {s:TypeId} {x:Operand} {f:Nat} (hr:rsO st x = true) (hw:wsO st d = true) (hp:ptrO st (opE e x) = true) (h:fieldAddrE P nn d s x f e = some E1):ah ct (some st) (iu P nn d s x f) e (fun x=>x = E1):=by
 unfold fieldAddrE at h; unfold iu;split at h
 ·cases h
 ·rename_i ti ht; rw [ht]
  dsimp only;split at h
  ·cases h
  ·rename_i off fty hf; rw [hf]
   dsimp only;split at h
   ·cases h
   ·rename_i tf htf; rw [htf]
    split at h
    ·cases h
    ·rename_i av hx; dsimp only; rw [fj hr hx]; rw [hx] at hp
     unfold faE at h;split at h
     ·dsimp only; rw [Kz (Ui hp (Jz _ _))];split at h
      ·cases h
      ·rename_i hc; rw [hc]; exact ft hw h
     ·exact ft hw h
     ·cases h
theorem Hn {s:TypeId} {x ix:Operand} (hr:rsO st x = true) (hi:rsO st ix = true) (hw:wsO st d = true) (hh0:hdO st (opE e x) = true) (h:indexAddrE P nn d s x ix e = some E1):ah ct (some st) (it P nn d s x ix) e (fun x=>x = E1):=by
 unfold indexAddrE at h; unfold it;split at h
 ·cases h
 ·rename_i ti ht; rw [ht]
  dsimp only;split at h
  ·cases h
  ·rename_i el he; rw [he]
   dsimp only;split at h
   ·cases h
   ·rename_i te hte; rw [hte]
    split at h
    ·cases h
    ·rename_i av hx; dsimp only; rw [fj hr hx]; rw [hx] at hh0
     split at h
     ·cases h
     ·rename_i n hn; rw [Mw hi hn]
      unfold iaE at h;split at h
      ·dsimp only;split at h
       ·rename_i hc; rw [if_pos hc,jb9 hh0]
        split at h
        ·rename_i hh; rw [hh]
         split at h
         ·rename_i hl; dsimp only; rw [if_pos hl]; exact ft hw h
         ·cases h
        ·cases h
       ·cases h
      ·dsimp only;split at h
       ·rename_i hl; rw [if_pos hl]; exact ft hw h
       ·cases h
      ·cases h
theorem Y4 {t:TypeId} {l c:Operand} (hrl:rsO st l = true) (hrc:rsO st c = true) (hw:wsO st d = true) (h:makeE P nn d t l c e = some E1):ah ct (some st) (Ck P nn d t l c) e (fun x=>x = E1):=by
 unfold makeE at h; unfold Ck;split at h
 ·cases h
 ·rename_i ti ht; rw [ht]
  dsimp only;split at h
  ·cases h
  ·rename_i el he; rw [he]
   dsimp only;split at h
   ·cases h
   ·rename_i te hte; rw [hte]
    split at h
    ·cases h
    ·rename_i n hn; dsimp only; rw [Mw hrl hn]
     split at h
     ·cases h
     ·rename_i m hm; rw [Mw hrc hm]
      split at h
      ·rename_i hl; rw [if_pos hl]; exact np hw rfl h
      ·cases h
theorem O8 {x:Operand} {i:Nat} (hr:rsO st x = true) (hw:wsO st d = true) (htk:exO st x i = true) (h:extractE nn d x i e = some E1):ah ct (some st) (l9 nn d x i) e (fun x=>x = E1):=by
 unfold extractE at h; unfold l9;split at h
 ·rename_i s
  dsimp only;rw [F8 hr];split at h
  ·rename_i ts hv; rw [hv]
   dsimp only;unfold exE at h;split at h
   ·rename_i ht; rw [ht]; exact ft hw h
   ·rename_i ht; rw [ht]; exact ft hw h
   ·rename_i ht; rw [ht]
    dsimp only;split at h
    ·rename_i hd; rw [if_pos hd,Sz htk]
     split at h
     ·rename_i hc; rw [hc]; exact np hw (by simp only [List.all_cons,List.all_nil,Upd.okB,Bool.and_true]; exact htk) h
     ·cases h
    ·cases h
   ·cases h
  ·cases h
 ·cases h
theorem jbo {s:TypeId} {x:Operand} (hr:rsO st x = true) (hw:wsO st d = true) (hh0:hdO st (opE e x) = true) (h:lenE P nn d s x e = some E1):ah ct (some st) (Qk P nn d s x) e (fun x=>x = E1):=by
 unfold lenE at h; unfold Qk;split at h
 ·cases h
 ·rename_i av hx; rw [fj hr hx]; rw [hx] at hh0
  unfold lnE at h;split at h
  ·split at h
   ·rename_i hs; dsimp only; rw [if_pos hs]; exact ft hw h
   ·cases h
  ·rename_i hne
   split at h
   ·cases h
   ·rename_i ti ht
    split
    ·exact (hne _ rfl).elim
    ·rw [ht];dsimp only;split at h
     ·rename_i he; rw [if_pos he]
      split at h
      ·dsimp only;split at h
       ·rename_i hc; rw [if_pos hc,jb9 hh0]
        split at h
        ·rename_i hh; rw [hh]; exact ft hw h
        ·cases h
       ·cases h
      ·exact ft hw h
      ·exact ft hw h
      ·cases h
     ·cases h
theorem Fv:∀ {ps:List (Nat × Operand)} {rs:List (Nat × List C)} {k:List (Nat × List C) → Q},ps.all (fun p=>rsO st p.2) = true → partsE e ps = some rs → ah ct (some st) (pb ps k) e K = ah ct (some st) (k rs) e K
 | [],rs,k,_,h=>by cases h; rfl
 | (i,x) :: ps,rs,k,hr,h=>by
  rw [List.all_cons,Bool.and_eq_true] at hr;unfold partsE at h; unfold pb;split at h
  ·cases h
  ·rename_i av hx; rw [fj hr.1 hx]
   split at h
   ·cases h
   ·rename_i ys hy; rw [hy]
    split at h
    ·cases h
    ·rename_i rs' hrs; cases h; exact Fv hr.2 hrs
theorem V2 {t:TypeId} {ps:List (Nat × Operand)} (hr:ps.all (fun p=>rsO st p.2) = true) (hw:wsO st d = true) (h:buildE P nn d t ps e = some E1):ah ct (some st) (jx P nn d t ps) e (fun x=>x = E1):=by
 unfold buildE at h; unfold jx;split at h
 ·cases h
 ·rename_i ti ht; rw [ht]
  dsimp only;split at h
  ·cases h
  ·rename_i f fs hf; rw [hf]
   dsimp only;split at h
   ·cases h
   ·rename_i pl hpl; rw [hpl]
    dsimp only;split at h
    ·cases h
    ·rename_i rs hrs; rw [Fv hr hrs]
     split at h
     ·rename_i ys hys; rw [hys]; exact ft hw h
     ·cases h
theorem Ba:∀ {ps:List (Nat × Operand)} {n:Nat} {x:List (Nat × List CK) × List (Option (Nat × aj × C))} {k:List (Nat × List CK) → List (Option (Nat × aj × C)) → Q},ps.all (fun p=>rsO st p.2) = true → ps.all (fun p=>bpO st d (opE e p.2)) = true → oPartsE e n ps = some x →
 ah ct (some st) (lb n ps k) e K = ah ct (some st) (k x.1 x.2) e K
 | [],n,x,k,_,_,h=>by cases h; rfl
 | (i,y) :: ps,n,x,k,hr,hb,h=>by
  rw [List.all_cons,Bool.and_eq_true] at hr hb;obtain ⟨hr1,hr2⟩:=hr;obtain ⟨hb1,hb2⟩:=hb;unfold oPartsE at h; unfold lb;dsimp only at h;split at h
  ·cases h
  ·rename_i av hx; rw [fj hr1 hx]
   rw [hx] at hb1;unfold oPartE at h;split at h
   ·cases h
   ·rename_i x' hx'
    split at h
    ·dsimp only;split at h
     ·rename_i hc; rw [if_pos hc]
      unfold bpO at hb1;simp only [Bool.and_eq_true] at hb1;split at h
      ·rename_i c hcs; rw [xq hb1.1.1 hcs]
       split at h
       ·rename_i hone; dsimp only; rw [if_pos hone]; cases h
        exact Ba hr2 hb2 hx'
       ·cases h
      ·cases h
     ·cases h
    ·rename_i hne
     split at h
     ·rename_i ys hys; cases h
      split
      ·exact (hne _ _ _ _ _ rfl).elim
      ·rw [hys]; exact Ba hr2 hb2 hx'
     ·cases h
theorem Kf:∀ {ps:List (Nat × Operand)} {n:Nat} {x:List (Nat × List CK) × List (Option (Nat × aj × C))},ps.all (fun p=>bpO st d (opE e p.2)) = true → oPartsE e n ps = some x → ∀ s,some s ∈ x.2 → st.pB s.1 s.2.1.length = true ∧ bpD st d = true
 | [],n,x,_,h,s,hs=>by cases h; cases hs
 | (i,y) :: ps,n,x,hb,h,s,hs=>by
  rw [List.all_cons,Bool.and_eq_true] at hb;obtain ⟨hb1,hb2⟩:=hb;unfold oPartsE at h;dsimp only at h;split at h
  ·cases h
  ·rename_i av hx
   rw [hx] at hb1;unfold oPartE at h;split at h
   ·cases h
   ·rename_i x' hx'
    split at h
    ·split at h
     ·unfold bpO at hb1;simp only [Bool.and_eq_true] at hb1;split at h
      ·split at h
       ·cases h
        rcases List.mem_cons.1 hs with hs | hs
        ·cases hs; exact ⟨hb1.1.2,hb1.2⟩
        ·exact Kf hb2 hx' s hs
       ·cases h
      ·cases h
     ·cases h
    ·split at h
     ·cases h
      rcases List.mem_cons.1 hs with hs | hs
      ·cases hs
      ·exact Kf hb2 hx' s hs
     ·cases h
theorem mn {dd:Nat} {ss:List (Option (Nat × aj × C))} (h:∀ s,some s ∈ ss → st.pB s.1 s.2.1.length = true ∧ st.pB dd 1 = true):∀ (ys:List CK) (j:Nat),(ownMoves dd ss j ys).all (Upd.okB st) = true
 | [],_=>rfl
 | .inl c :: ys,j=>by unfold ownMoves; exact mn h ys _
 | .inr k :: ys,j=>by
  unfold ownMoves;split
  ·rename_i s hs
   have hm:some s ∈ ss:=by
    cases hk:ss[k]? with
    | none=>rw [hk] at hs; cases hs
    | some y =>
     rw [hk] at hs;have:y = some s:=hs;subst this;exact List.mem_of_getElem? hk
   obtain ⟨h1,h2⟩:=h s hm;simp only [List.all_cons,Upd.okB,h1,Bool.true_and,List.length_cons,List.length_nil,Nat.zero_add,h2];exact mn h ys _
  ·exact mn h ys _
theorem Ro {t:TypeId} {ps:List (Nat × Operand)} (hr:ps.all (fun p=>rsO st p.2) = true) (hw:wsO st d = true) (hbp:ps.all (fun p=>bpO st d (opE e p.2)) = true) (h:buildOE P nn d t ps e = some E1):ah ct (some st) (ib P nn d t ps) e (fun x=>x = E1):=by
 unfold buildOE at h; unfold ib;split at h
 ·cases h
 ·rename_i ti ht; rw [ht]
  dsimp only;split at h
  ·cases h
  ·rename_i f fs hf; rw [hf]
   dsimp only;split at h
   ·cases h
   ·rename_i pl hpl; rw [hpl]
    dsimp only;split at h
    ·cases h
    ·rename_i x hx; rw [Ba hr hbp hx]
     split at h
     ·cases h
     ·rename_i ys hys; rw [hys]
      dsimp only;split at h
      ·cases h
      ·rename_i dd
       dsimp only;split at h
       ·rename_i hc; rw [if_pos hc]; cases h
        refine ⟨fun z hz=>?_,by rw [upds,i9]; rfl⟩;cases hz;rw [List.all_cons,List.all_append];have h1:Upd.okB st (.set dd (.own true ys.length) (oneCon ⟨none,ys.map initC⟩)) = true:=hw
        have h2:([Upd.set dd (.own true ys.length) (oneCon ⟨none,movedC x.2 (ys.map initC) 0 ys⟩)].all (Upd.okB st)) = true:=by
         rw [List.all_cons,List.all_nil,Bool.and_true]; exact hw
        rw [h1,h2,Bool.true_and,Bool.and_true];exact mn (fun s hs=>Kf hbp hx s hs) ys 0
       ·cases h
theorem jbu {t:TypeId} {ps:List (Nat × Operand)} (hr:ps.all (fun p=>rsO st p.2) = true) (hw:wsO st d = true) (hbp:ps.all (fun p=>bpO st d (opE e p.2)) = true) (h:bldE P nn d t ps e = some E1):ah ct (some st) (Mm P nn d t ps) e (fun x=>x = E1):=by
 unfold bldE at h; unfold Mm
 have key:∀ (l:List (Nat × Operand)) (b:Bool),l.all (fun p=>rsO st p.2) = true → ownAnyE e l = some b → ah ct (some st) (mo l (ib P nn d t ps) (jx P nn d t ps)) e (fun x=>x = E1) = ah ct (some st) (if b = true then ib P nn d t ps else jx P nn d t ps) e (fun x=>x = E1):=by
  intro l
  induction l with
  | nil=>intro b _ hb; cases hb; rfl
  | cons y l ih =>
   intro b hl hb;rw [List.all_cons,Bool.and_eq_true] at hl;unfold ownAnyE at hb; unfold mo;split at hb
   ·cases hb
   ·rename_i av hx; rw [fj hl.1 hx]
    split at hb
    ·rename_i hrf; cases hb; rw [if_pos hrf,if_pos rfl]
    ·rename_i hrf; rw [if_neg hrf]; exact ih b hl.2 hb
 split at h
 ·cases h
 ·rename_i b hb
  rw [key ps b hr hb];split at h
  ·rename_i hbt; rw [if_pos hbt]; exact Ro hr hw hbp h
  ·rename_i hbt; rw [if_neg hbt]; exact V2 hr hw h
theorem Mv {k:Nat} {av2:AV} {kq:List (List C) → Q} {kb:Nat → aj → List C → Q} {r:Vq} (hs:subO st (some av2) = true) (h:srcE e k av2 = some r):ah ct (some st) (Dt k av2 kq kb) e K = ah ct (some st) (match r with
 | .flat rows2=>kq rows2
 | .row s p row=>kb s p row) e K:=by
 unfold srcE at h; unfold Dt;split at h
 ·cases h; rfl
 ·dsimp only at h ⊢;split at h
  ·rename_i hc; cases h; rw [if_pos hc]
  ·cases h
 ·dsimp only at h ⊢;split at h
  ·rename_i hc; rw [if_pos hc,Nk hs]
   split at h
   ·rename_i hsub; rw [hsub]; dsimp only
    split at h
    ·rename_i hk; rw [if_pos hk]
     split at h
     ·rename_i hok; cases h; rw [if_pos hok]
     ·rename_i hok; rw [if_neg hok]
      split at h
      ·split at h
       ·rename_i hone; cases h; dsimp only; rw [if_pos hone]
       ·cases h
      ·cases h
    ·cases h
   ·cases h
  ·cases h
 ·cases h
theorem M9 {k:Nat} {av2:AV} {s:Nat} {p:aj} {row:List C} {dd:Nat} (h:srcE e k av2 = some (.row s p row)) (hr:rowO st (some dd) e (some av2) = true):st.pB s (p.length + 1) = true ∧ st.pB dd 2 = true:=by
 unfold srcE at h;split at h
 ·cases h
 ·split at h <;> cases h
 ·split at h
  ·split at h
   ·rename_i t k2 rows2 hsub
    split at h
    ·split at h
     ·cases h
     ·rename_i hok
      split at h
      ·split at h
       ·cases h;unfold rowO at hr;dsimp only at hr;rw [hsub] at hr;simp only [Bool.or_eq_true,Bool.and_eq_true] at hr
        rcases hr with hr | hr
        ·exact absurd hr hok
        ·exact hr
       ·cases h
      ·cases h
    ·cases h
   ·cases h
  ·cases h
 ·cases h
theorem Om {r dd el:Nat} {p p2:aj} {s2 n:Nat} {us:List Upd} {cs1 cs2:Nat → Option Con} {row:List C} (hus:us.all (Upd.okB st) = true) (hw:st.ws.contains dd = true) (h1:st.pB s2 (p2.length + 1) = true) (h2:st.pB dd 2 = true) :
 (us ++ [Upd.set dd (.own false 1) cs1,Upd.set dd (.own false 1) cs2] ++ graftU s2 (p2 ++ [(0,0)]) dd [(0,0),(n,0)] 0 row).all (Upd.okB st) = true:=by
 rw [List.all_append,List.all_append,hus];simp only [List.all_cons,List.all_nil,Upd.okB,hw,Bool.and_true,Bool.true_and];exact sq (by rw [List.length_append]; exact h1) h2 _ _
theorem Rq {s:TypeId} {x y:Operand} (hrx:rsO st x = true) (hry:rsO st y = true) (hw:wsO st d = true) (hsx:subO st (opE e x) = true) (htx:tkO st (opE e x) = true) (hsy:subO st (opE e y) = true) (hro:rowO st d e (opE e y) = true) (h:appendE P nn d s x y e = some E1):ah ct (some st) (py P nn d s x y) e (fun x=>x = E1):=by
 unfold appendE at h; unfold py;split at h
 ·cases h
 ·rename_i ti ht; rw [ht]; dsimp only
  split at h
  ·cases h
  ·rename_i el hel; rw [hel]; dsimp only
   split at h
   ·cases h
   ·rename_i te hte; rw [hte]; dsimp only
    split at h
    ·cases h
    ·rename_i dd; try dsimp only
     split at h
     ·cases h
     ·rename_i av hx; rw [fj hrx hx]; rw [hx] at hsx htx
      split at h
      ·cases h
      ·rename_i av2 hy; rw [fj hry hy]; rw [hy] at hsy hro
       unfold apE at h;split at h
       ·show ah ct (some st) (Dt te.size av2 _ _) e _;unfold apNilE at h;split at h
        ·rename_i rows2 hsrc; rw [Mv hsy hsrc]; dsimp only
         split at h
         ·rename_i hc; rw [if_pos hc]; exact np hw (by simp only [List.all_cons,List.all_nil,Upd.okB,Bool.and_true]; exact hw) h
         ·cases h
        ·rename_i s2 p2 row hsrc; rw [Mv hsy hsrc]; dsimp only
         obtain ⟨g1,g2⟩:=M9 hsrc hro;split at h
         ·rename_i hc; cases h; rw [if_pos hc]; exact (Bv (K:=fun e'=>e' = _) (Om (r:=0) (el:=0) (p:=[]) (us:=[]) rfl hw g1 g2)).mpr rfl
         ·cases h
        ·cases h
       ·dsimp only;split at h
        ·rename_i hc; rw [if_pos hc,Nk hsx]
         split at h
         ·rename_i hsub; rw [hsub]; dsimp only
          split at h
          ·rename_i hk; rw [if_pos hk]
           unfold apOwnE at h;split at h
           ·rename_i rows2 hsrc; rw [Mv hsy hsrc]; dsimp only
            split at h
            ·rename_i hc; rw [if_pos hc]
             exact np hw (by rw [List.all_append,ol htx]; simp only [List.all_cons,List.all_nil,Upd.okB,Bool.and_true,Bool.true_and]; exact hw) h
            ·cases h
           ·rename_i s2 p2 row hsrc; rw [Mv hsy hsrc]; dsimp only
            obtain ⟨g1,g2⟩:=M9 hsrc hro;split at h
            ·rename_i hc; cases h; rw [if_pos hc,Bv (Om (r:=0) (el:=0) (p:=[]) (ol htx _) hw g1 g2)]
            ·cases h
           ·cases h
          ·cases h
         ·cases h
        ·cases h
       ·cases h
theorem vq {ty:TypeId} {n:Nat} {ps:List (Nat × Operand)} (hr:ps.all (fun p=>rsO st p.2) = true) (hw:wsO st d = true) (h:buildSliceE P nn d ty n ps e = some E1):ah ct (some st) (fw P nn d ty n ps) e (fun x=>x = E1):=by
 unfold buildSliceE at h; unfold fw;split at h
 ·cases h
 ·rename_i ti ht; rw [ht]; dsimp only
  split at h
  ·cases h
  ·rename_i el hel; rw [hel]; dsimp only
   split at h
   ·cases h
   ·rename_i te hte; rw [hte]; dsimp only
    split at h
    ·rename_i hc; rw [if_pos hc]
     split at h
     ·cases h
     ·rename_i rs hrs; rw [Fv hr hrs]
      split at h
      ·rename_i ys hys; rw [hys]; dsimp only
       split at h
       ·rename_i hf; rw [if_pos hf]; exact np hw rfl h
       ·cases h
      ·cases h
    ·cases h
theorem Hm {el:TypeId} {te:TI} {av:AV} (hw:wsO st d = true) (he:elO st d (some av) = true) (h:moveSliceE nn d el te e av = some E1):ah ct (some st) (ir nn d el te av) e (fun x=>x = E1):=by
 unfold moveSliceE at h; unfold ir;split at h
 ·dsimp only;unfold elO at he;simp only [Bool.and_eq_true] at he;obtain ⟨⟨he1,he2⟩,he3⟩:=he;split at h
  ·rename_i hc; rw [if_pos hc]
   split at h
   ·cases h
   ·rename_i cs hcs; rw [xq he1 hcs]
    split at h
    ·rename_i hone; rw [if_pos hone]
     split at h
     ·rename_i hf; rw [if_pos hf]; exact np hw rfl h
     ·rename_i hf; cases h; rw [if_neg hf,Bv (by
       rw [List.all_cons,sq he2 he3,Bool.and_true]
       exact hw)]
    ·cases h
  ·cases h
 ·cases h
theorem jbr {ty:TypeId} {x:Operand} (hr:rsO st x = true) (he:elO st d (opE e x) = true) (hw:wsO st d = true) (h:bs1E P nn d ty x e = some E1):ah ct (some st) (Q6 P nn d ty x) e (fun x=>x = E1):=by
 unfold bs1E at h; unfold Q6;split at h
 ·cases h
 ·rename_i ti ht; rw [ht]; dsimp only
  split at h
  ·cases h
  ·rename_i el hel; rw [hel]; dsimp only
   split at h
   ·cases h
   ·rename_i te hte; rw [hte]; dsimp only
    split at h
    ·cases h
    ·rename_i av hx; rw [fj hr hx]; rw [hx] at he
     split at h
     ·rename_i hp; rw [hp]; exact vq (by simp [hr]) hw h
     ·rename_i hp; rw [hp]; dsimp only
      split at h
      ·rename_i hc; rw [if_pos hc]; exact Hm hw he h
      ·cases h
theorem jdb {ty:TypeId} {n:Nat} {ps:List (Nat × Operand)} (hr:ps.all (fun p=>rsO st p.2 && elO st d (opE e p.2)) = true) (hw:wsO st d = true) (h:bsE P nn d ty n ps e = some E1):ah ct (some st) (bsQ P nn d ty n ps) e (fun x=>x = E1):=by
 unfold bsE at h; unfold bsQ;split at h
 ·simp only [List.all_cons,List.all_nil,Bool.and_true,Bool.and_eq_true] at hr;exact jbr hr.1 hr.2 hw h
 ·rename_i n' ps' hne
  have hr2:ps.all (fun p=>rsO st p.2) = true:=List.all_eq_true.2 fun p hp=>by
   have:=List.all_eq_true.1 hr p hp;simp only [Bool.and_eq_true] at this;exact this.1
  split
  ·exact (hne _ rfl rfl).elim
  ·exact vq hr2 hw h
theorem Ya {x:Option Operand} {k:Option Int → Q} {n:Option Int} (hr:bndO st x = true) (h:bndE e x = some n):ah ct (some st) (J3 x k) e K = ah ct (some st) (k n) e K:=by
 unfold bndE at h; unfold J3;split at h
 ·cases h; rfl
 ·split at h
  ·cases h
  ·rename_i m hm; cases h; exact Mw hr hm
theorem V0 {s:TypeId} {x:Operand} {lo hi:Option Operand} (hrx:rsO st x = true) (hrl:bndO st lo = true) (hrh:bndO st hi = true) (hw:wsO st d = true) (hsx:subO st (opE e x) = true) (htx:tkO st (opE e x) = true) (h:sliceE P nn d s x lo hi e = some E1):ah ct (some st) (ub P nn d s x lo hi) e (fun x=>x = E1):=by
 unfold sliceE at h; unfold ub;split at h
 ·cases h
 ·rename_i ti ht; rw [ht]; try dsimp only
  split at h
  ·cases h
  ·rename_i el hel; rw [hel]; try dsimp only
   split at h
   ·cases h
   ·rename_i te hte; rw [hte]; try dsimp only
    split at h
    ·cases h
    ·rename_i av hx; rw [fj hrx hx]; rw [hx] at hsx htx
     split at h
     ·cases h
     ·rename_i l hl; rw [Ya hrl hl]
      split at h
      ·cases h
      ·rename_i m hm; rw [Ya hrh hm]
       unfold slAvE at h;split at h
       ·try dsimp only
        split at h
        ·rename_i hc; rw [if_pos hc]; exact ft hw h
        ·cases h
       ·try dsimp only
        split at h
        ·cases h
        ·try dsimp only
         split at h
         ·rename_i hc; rw [if_pos hc,Nk hsx]
          split at h
          ·rename_i hsub; rw [hsub]; try dsimp only
           split at h
           ·rename_i hk; rw [if_pos hk]
            obtain ⟨rfl,rfl,-⟩:=hc;exact np hw (by rw [List.all_append,ol htx]; simp only [List.all_cons,List.all_nil,Upd.okB,Bool.and_true,Bool.true_and]; exact hw) h
           ·cases h
          ·cases h
         ·cases h
       ·cases h
theorem jbn {mx:Bool} {x y:Operand} (hrx:rsO st x = true) (hry:rsO st y = true) (hw:wsO st d = true) (h:mmE nn d mx x y e = some E1):ah ct (some st) (mmQ nn d mx x y) e (fun x=>x = E1):=by
 unfold mmE at h; unfold mmQ;split at h
 ·cases h
 ·rename_i av hx; rw [fj hrx hx]
  split at h
  ·cases h
  ·rename_i av2 hy; rw [fj hry hy]
   unfold mmAvE at h;split at h
   ·exact ft hw h
   ·cases h
theorem Hl {no:List Nat}:∀ {rs:List (Nat × Nat)} {css:List (List C)} {k:List (List C) → Q},(rs.all fun x=>st.rd.contains x.1) = true → (rs.all fun x=>!no.contains x.1) = true → wholesE e rs = some css → ah ct (some st) (mg no rs k) e K = ah ct (some st) (k css) e K
 | [],css,k,_,_,h=>by cases h; rfl
 | (r,g) :: rs,css,k,hrd,hno,h=>by
  unfold wholesE at h; unfold mg;rw [List.all_cons,Bool.and_eq_true] at hno hrd;rw [if_pos (by simpa using hno.1),Nj hrd.1];split at h
  ·cases h
  ·rename_i t ys hw
   rw [hw];dsimp only;split at h
   ·cases h
   ·rename_i css' hc
    cases h;rw [Hl hrd.2 hno.2 hc]
theorem Rn:∀ {xs:List Operand} {rs:List (Nat × Nat)} {k:List (Nat × Nat) → Q},xs.all (rsO st) = true → capsE e xs = some rs → ah ct (some st) (zx xs k) e K = ah ct (some st) (k rs) e K
 | [],rs,k,_,h=>by cases h; rfl
 | x :: xs,rs,k,hr,h=>by
  rw [List.all_cons,Bool.and_eq_true] at hr;unfold capsE at h; unfold zx;split at h
  ·cases h
  ·rename_i rg hb
   cases hx:opE e x with
   | none=>rw [hx] at hb; cases hb
   | some av =>
    rw [hx] at hb;have hb:isBoxP av = some rg:=hb;rw [fj hr.1 hx,hb];dsimp only;split at h
    ·cases h
    ·rename_i l hl
     cases h;rw [Rn hr.2 hl]
theorem Y3 {g:FuncId} {caps:List Operand} (hr:caps.all (rsO st) = true) (hw:wsO st d = true) (h:mkFnE nn d g caps e = some E1):ah ct (some st) (Ch nn d g caps) e (fun x=>x = E1):=by
 unfold mkFnE at h; unfold Ch;split at h
 ·cases h
 ·rename_i rs hc; rw [Rn hr hc]; exact ft hw h
theorem jbm (h0:opOk st o.dst o.op e = true) (h:opX P nn o.dst o.op e = some E1):ah ct (some st) (opQ P nn o) e (fun x=>x = E1):=by
 unfold opX at h; unfold opQ;split at h <;> rename_i ho <;> (try rw [ho]) <;> (try rw [ho] at h0) <;> (try simp only [opOk,Bool.and_eq_true] at h0)
 ·exact jda h0.1.1 h0.1.2 h0.2 h
 ·exact Rp h0.1.1.1 h0.1.1.2 h0.1.2 h0.2 h
 ·exact Y2 h0.1.1.1 h0.1.1.2 h0.1.2 h0.2 h
 ·exact V3 h0 h
 ·exact jbs h0.1.1 h0.1.2 h0.2 h
 ·exact Y5 h0.1.1 h0.1.2 h0.2 h
 ·exact Vz h0.1.1.1.1.1 h0.1.1.1.1.2 h0.1.1.1.2 h0.1.1.2 h0.1.2 h0.2 h
 ·exact jbv h0.1.1 h0.1.2 h0.2 h
 ·exact jc9 h0.1 h0.2 h
 ·exact Ho h0.1.1 h0.1.2 h0.2 h
 ·exact Hn h0.1.1.1 h0.1.1.2 h0.1.2 h0.2 h
 ·exact Y4 h0.1.1 h0.1.2 h0.2 h
 ·exact O8 h0.1.1 h0.1.2 h0.2 h
 ·exact jbu h0.1.1 h0.1.2 h0.2 h
 ·exact jbo h0.1.1 h0.1.2 h0.2 h
 ·exact Y3 h0.1 h0.2 h
 ·exact jdb h0.1 h0.2 h
 ·dsimp only;split at h
  ·rename_i hs; rw [if_pos hs]; exact Rq h0.1.1.1.1.1.1 h0.1.1.1.1.1.2 h0.1.1.1.1.2 h0.1.1.1.2 h0.1.1.2 h0.1.2 h0.2 h
  ·cases h
 ·exact V0 h0.1.1.1.1.1 h0.1.1.1.1.2 h0.1.1.1.2 h0.1.1.2 h0.1.2 h0.2 h
 ·exact jbn h0.1.1 h0.1.2 h0.2 h
 ·exact jbn h0.1.1 h0.1.2 h0.2 h
 ·cases h
theorem jbq {s:Nat} {b:Option Bool} {k:Option Bool → Q} (hr:st.rs.contains s = true) (h:gopE e s = some b):ah ct (some st) (.slot s fun av=>uz av k) e K = ah ct (some st) (k b) e K:=by
 rw [F8 hr];unfold gopE at h
 generalize slotView s (e.gen s) (e.s s) = av at h
 unfold gvE at h; unfold uz;split at h <;> cases h <;> rfl
theorem y_g (h0:gOk st ds o e = true) (h:gX P nn ds o e = some E1):ah ct (some st) (gQ P nn ds o) e (fun x=>x = E1):=by
 unfold gX at h; unfold gQ; unfold gOk at h0;split at h
 ·rename_i hg; rw [hg] at h0 ⊢; exact jbm h0 h
 ·rename_i j want hg; rw [hg] at h0 ⊢
  dsimp only at h0 ⊢;split at h
  ·rename_i dj hdj; rw [hdj] at h0 ⊢
   dsimp only at h0 ⊢;split at h
   ·cases h
   ·rename_i b hb
    rw [hb] at h0;simp only [Bool.and_eq_true] at h0;refine Eq.mpr (jbq h0.1.1 hb) ?_;split at h
    ·rename_i hw; rw [if_pos hw]
     have h1:=h0.2;subst hw;simp only [BEq.rfl,Bool.not_true,Bool.false_or] at h1;exact jbm h1 h
    ·rename_i hw; rw [if_neg hw]
     have hws:=h0.1.2;unfold skipE at h; unfold Ib;split at h
     ·rename_i d hd; rw [hd] at hws ⊢; exact np hws rfl h
     ·rename_i hd; cases h; rw [hd]; exact (Bv (us:=[]) rfl).mpr rfl
  ·cases h
theorem Yb {no:List Nat} {av:AV} {a:Arg} {k:Bool → Arg → Q} (hno:Ix no av = true) (hs0:subO st (some av) = true) (h:argE e av = some a):ah ct (some st) (J8 no av k) e K = ah ct (some st) (k (roE e av) a) e K:=by
 unfold argE at h; unfold J8 roE;split at h
 ·cases h; rfl
 ·cases h; rfl
 ·dsimp only;split at h
  ·rename_i hn; rw [if_pos ⟨hn,by simpa [Ix] using hno⟩]
   split at h
   ·cases h
   ·rename_i cs hs; rw [xq hs0 hs]
    split at h
    ·cases h; simp only [hs]
    ·cases h; simp only [hs,List.all_cons,List.all_nil,Bool.and_true]
    ·cases h
  ·cases h
 ·cases h; rfl
 ·cases h; rfl
 ·dsimp only;split at h
  ·cases h
  ·rename_i css hc; cases h; rw [Hl hs0 hno hc]
 ·cases h
theorem Kg {no:List Nat}:∀ {xs:List Operand} {as:List Arg} {k:Bool → List Arg → Q},(∀ r,no.contains r = true → xs.all (kp e r) = true) → xs.all (rsO st) = true → xs.all (fun x=>subO st (opE e x)) = true → argsE e xs = some as → ah ct (some st) (qk no xs k) e K = ah ct (some st) (k (rosE e xs) as) e K
 | [],as,k,_,_,_,h=>by cases h; rfl
 | x :: xs,as,k,hno,hr,hs,h=>by
  rw [List.all_cons,Bool.and_eq_true] at hr hs;unfold argsE at h; unfold qk rosE;split at h
  ·cases h
  ·rename_i av hx; rw [fj hr.1 hx]; have hs1:=hs.1; rw [hx] at hs1
   split at h
   ·cases h
   ·rename_i a ha
    have hno1:Ix no av = true:=Es (fun r hr=>by have:=hno r hr; rw [List.all_cons,Bool.and_eq_true] at this; exact this.1) hx;rw [Yb hno1 hs1 ha];split at h
    ·cases h
    ·rename_i as' has; cases h; rw [Kg (fun r hr=>by have:=hno r hr; rw [List.all_cons,Bool.and_eq_true] at this; exact this.2) hr.2 hs.2 has]
theorem Y1 {d:Nat} {f:FuncId} {xs:List Operand} {as:List Arg} (hr:xs.all (rsO st) = true) (hs:xs.all (fun x=>subO st (opE e x)) = true) (h:argsE e xs = some as) (hq:ah ct (some st) (.call f (rosE e xs) as (Ad d)) e K):ah ct (some st) (qg nn d f xs) e K:=by
 cases xs with
 | nil=>cases h; exact hq
 | cons x xs =>
  rw [List.all_cons,Bool.and_eq_true] at hr hs;unfold qg;dsimp only;unfold argsE at h;split at h
  ·cases h
  ·rename_i av hx; rw [fj hr.1 hx]; have hs1:=hs.1; rw [hx] at hs1
   split at h
   ·cases h
   ·rename_i a ha
    rw [(Dg ha).1];dsimp only;refine .inl ?_;rw [Yb (Et _) hs1 ha];split at h
    ·cases h
    ·rename_i as' has
     cases h;rw [Kg (fun r hr=>by cases hr) hr.2 hs.2 has];unfold rosE at hq;simp only [hx] at hq;exact hq
theorem Rl {d r g:Nat} {f:FuncId} {t:TypeId} {ys:List C} {x:Operand} {xs:List Operand} {as:List Arg} (hrx:rsO st x = true) (hr:xs.all (rsO st) = true) (hs:xs.all (fun x=>subO st (opE e x)) = true) (hrd:st.rd.contains r = true) (hx:boxpE (opE e x) = some (r,g)) (hdr:d ≠ r) (hw:e.whole r g = some (t,ys)) (hno:xs.all (kp e r) = true) (h:argsE e xs = some as) (hq:ah ct (some st) (.call f (rosE e xs) (.io t ys :: as) (ioU r d)) e K):ah ct (some st) (qg nn d f (x :: xs)) e K:=by
 unfold qg;dsimp only
 cases hav:opE e x with
 | none=>rw [hav] at hx; cases hx
 | some av =>
  rw [hav] at hx;have hx:isBoxP av = some (r,g):=hx;rw [fj hrx hav,hx];dsimp only;rw [if_pos hdr,Nj hrd,hw];dsimp only;refine .inl ?_;rw [Kg (fun r' hr'=>by simp at hr'; subst hr'; exact hno) hr hs h];exact hq
end
end
section
open Go Go.RowKit
def Iw:Nat → List Oper → List (Nat × Oper)
 | _,[]=>[]
 | k,o :: l=>(k,o) :: Iw (k + 1) l
theorem Iv:∀ (k:Nat) (l:List Oper),(Iw k l).map Prod.fst = List.range' k l.length
 | _,[]=>rfl
 | k,o :: l=>by unfold Iw; rw [List.map_cons,Iv (k + 1) l,List.length_cons,List.range'_succ]
theorem Iu:∀ (k:Nat) (l:List Oper) (p:Nat × Oper),p ∈ Iw k l → k ≤ p.1 ∧ l[p.1 - k]? = some p.2
 | _,[],p,h=>by cases h
 | k,o :: l,p,h=>by
  unfold Iw at h
  rcases List.mem_cons.1 h with rfl | h
  ·simp
  ·obtain ⟨h1,h2⟩:=Iu (k + 1) l p h;refine ⟨by omega,?_⟩;rw [show p.1 - k = p.1 - (k + 1) + 1 from by omega,List.getElem?_cons_succ]; exact h2
structure mf (P:Program) (pa:Nat → Res → Prop) (st:Nat → Stat) (nn:Nat) (ds:List (Option Nat)) (ops:Array Oper) (l:List (Nat × Oper)) (e:Env) (K:Env → Prop):Prop where
 out:y6 ops = ds → (∀ p ∈ l,ops[p.1]? = some p.2) → td P nn (Yh P fun i _=>pa i) (fun i=>some (st i)) ops (l.map Prod.fst) e K
section
variable {P:Program} {pa:Nat → Res → Prop} {st:Nat → Stat} {nn:Nat} {ds:List (Option Nat)} {ops:Array Oper} {l:List (Nat × Oper)} {e E1:Env} {K:Env → Prop} {w0:Base} {Q:Exit → Env → Prop} {i:Nat} {o:Oper}
theorem G4 {id:Nat} (st:Nat → Stat) (pa:Nat → Res → Prop) (hn:e.n = nn) (hd:y6 ops = ds) (hs:Iw 0 ops.toList = l) (hm:P.follows .mixedOrders = true) (hreg:Wo ops st = true) (h:∀ K:Env → Prop,(∀ e',Q .normal e' → K e') → mf P pa st nn ds ops l e K):DW P w0 (.region id ops true) Q e:=Ly st (fun i _=>pa i) hm hreg (by
 have h1:=(h _ fun _ h=>h).out hd (fun p hp=>by
  rw [← hs] at hp;have:=(Iu _ _ _ hp).2
  simpa using this)
 rw [← hs,Iv] at h1;rw [hn,List.range_eq_range']
 simpa using h1)
theorem ak (h:K e):mf P pa st nn ds ops [] e K:=⟨fun _ _=>h⟩
theorem A6 (_:At o.op = true) (h0:gOk (st i) ds o e = true) (h:gX P nn ds o e = some E1) (h2:mf P pa st nn ds ops l E1 K):mf P pa st nn ds ops ((i,o) :: l) e K:=⟨fun hd hl=>by
 rw [List.map_cons];unfold td;rw [hl (i,o) (by simp)];dsimp only;rw [hd]
 exact ez (fun e' he=>by rw [he]; exact h2.out hd fun p hp=>hl p (by simp [hp])) _ (y_g h0 h)⟩
theorem Fl {s:Nat} {f:FuncId} {args:List Operand} {as:List Arg} {Post:Res → Prop} (hg:o.guard = none) (hc:ff o s f args) (hd:s < nn) (hm:ap P f = true) (hw:(st i).ws.contains s = true) (hr:args.all (rsO (st i)) = true) (hsu:args.all (fun x=>subO (st i) (opE e x)) = true) (ha:argsE e args = some as) (hp:DCalls P f as Post) (hpa:Post = pa i) (hex:∃ r,Post r) (h2:∀ r,Post r → mf P pa st nn ds ops l (e.set s (resAV r) fun i=>resCon r (0,i)) K):mf P pa st nn ds ops ((i,o) :: l) e K:=⟨fun hds hl=>by
 obtain ⟨h1,ts,h3⟩:=hc;rw [List.map_cons];unfold td;rw [hl (i,o) (by simp)];dsimp only;unfold gQ; rw [hg];dsimp only;unfold opQ; rw [h3];show ah _ _ (kh P nn o.dst f args) _ _;unfold kh; rw [h1];dsimp only;rw [if_pos ⟨hd,hm⟩];refine Y1 hr hsu ha ?_;refine ⟨Post,⟨hpa,by rw [gt (me ha)]; exact .inl hp,hex⟩,fun r hr=>⟨fun x hx=>?_,(h2 r hr).out hds fun p hp=>hl p (by simp [hp])⟩⟩;cases hx;simp only [Ad,List.all_cons,List.all_nil,Upd.okB,Bool.and_true]
 exact hw⟩
theorem zw {s r g:Nat} {t:TypeId} {ys:List C} {f:FuncId} {x:Operand} {xs:List Operand} {as:List Arg} {Post:Res → Prop} (hg:o.guard = none) (hc:ff o s f (x :: xs)) (hd:s < nn) (hm:ap P f = true) (hw:(st i).ws.contains s = true) (hrx:rsO (st i) x = true) (hrd:(st i).rd.contains r = true) (hpb:(st i).pB r 1 = true) (hr:xs.all (rsO (st i)) = true) (hsu:xs.all (fun x=>subO (st i) (opE e x)) = true) (hx:boxpE (opE e x) = some (r,g)) (hsr:s ≠ r) (hwh:e.whole r g = some (t,ys)) (hno:xs.all (kp e r) = true) (ha:argsE e xs = some as) (hp:j3 P f t ys as Post ∨ (rosE e xs = true ∧ dr P f (.io t ys :: as) Post)) (hpa:Post = pa i) (hex:∃ r,Post r) (h2:∀ r',Post r' → mf P pa st nn ds ops l (upds (ioU r s r') e) K):mf P pa st nn ds ops ((i,o) :: l) e K:=⟨fun hds hl=>by
 obtain ⟨h1,ts,h3⟩:=hc;rw [List.map_cons];unfold td;rw [hl (i,o) (by simp)];dsimp only;unfold gQ; rw [hg];dsimp only;unfold opQ; rw [h3];show ah _ _ (kh P nn o.dst f (x :: xs)) _ _;unfold kh; rw [h1];dsimp only;rw [if_pos ⟨hd,hm⟩];refine Rl hrx hr hsu hrd hx hsr hwh hno ha ?_;refine ⟨Post,⟨hpa,by rw [xr (me ha)]; exact hp,hex⟩,fun r' hr'=>⟨fun x hx=>?_,(h2 r' hr').out hds fun p hp=>hl p (by simp [hp])⟩⟩;cases hx;unfold ioU;split
 ·rw [List.all_append,wq (p:=[(0,0)]) hpb];simp only [List.all_cons,List.all_nil,Upd.okB,Bool.and_true,Bool.true_and];exact hw
 ·rfl⟩
theorem Xr {e':Env} (h:e = e') (h2:mf P pa st nn ds ops l e' K):mf P pa st nn ds ops l e K:=h ▸ h2
end
end
end Go.Proofs.YtfknckinfcicbaaGreat
