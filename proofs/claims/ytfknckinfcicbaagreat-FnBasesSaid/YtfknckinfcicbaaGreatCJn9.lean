/- Parts of the proof. -/
import Derived.Test.YtfknckinfcicbaaGreatChecked
import Derived.Test.YtfknckinfcicbaaGreatCJn7
set_option linter.unusedSimpArgs false
set_option linter.unusedVariables false
namespace Go.Proofs.YtfknckinfcicbaaGreat
section
open Go.RowKit
theorem d8 (n lo hi:Int) (w:World) :
 Calls Tryz.prog 47 #[.int .i64 n,.int .i64 lo,.int .i64 hi] w (RetQ w (.bool (inB n lo hi))):=by
 by_cases h1:lo ≤ n
 ·have e1:decide (lo ≤ n) = true:=by simp [h1]
  by_cases h2:n ≤ hi
  ·have HE:Hid (inB n lo hi = true):=by simp [Hid,inB,h1,h2]
   go_enter Tryz.func47,Tryz.ntmps47
   go_wp2
   go_ret
   exact ⟨by rw [HE.out]; rfl,rfl⟩
  ·have HE:Hid (inB n lo hi = false):=by simp [Hid,inB,h2]
   have e2:decide (n ≤ hi) = false:=by simp [h2]
   go_enter Tryz.func47,Tryz.ntmps47
   go_wp2
   go_ret
   exact ⟨by rw [HE.out]; rfl,rfl⟩
 ·have HE:Hid (inB n lo hi = false):=by simp [Hid,inB,h1]
  have e1:decide (lo ≤ n) = false:=by simp [h1]
  go_enter Tryz.func47,Tryz.ntmps47
  go_wp2
  go_ret
  exact ⟨by rw [HE.out]; rfl,rfl⟩
end
section
open Go.RowKit
theorem sn:(Tryz.prog.info? 3).map (fun i=>(i.zero,i.size,i.bytes)) = some (some (.int .i64 0),1,8):=by kernel_rfl
theorem Bs (w:World) (B:Nat) (ty:TypeId) (v:Value) (xs:List Int) (hown:OwnI w B v xs) (c:Nat) :
 (Builtin.append_ #[26,26] ty #[v,.slice none 0 c]).run Tryz.prog w = .ok v w:=by
 obtain ⟨i0,hi,hz0,hz1,hz2⟩:=info_parts sn
 rcases hown.2 with ⟨rfl,h0⟩ | ⟨g,cap,cur,rfl,_,_,hnc,_⟩
 ·simp [Builtin.append_,run_underlying Tryz.underlying26,sizeOf,typeInfo,hi,Builtin.lenOf,Builtin.firstCells]
 ·simp [Builtin.append_,run_underlying Tryz.underlying26,sizeOf,typeInfo,hi,Builtin.lenOf,Builtin.firstCells,hnc,storeCells]
theorem xm (b off j:Nat):(⟨b,off,none⟩:Addr).add j = ⟨b,off + j,none⟩:=by
 unfold Addr.add;split <;> simp_all
theorem t6 {S:Nat → Prop} (w:World) {ops:Array Oper} {rest:List Oper} {o:Oper} {a:Act} {Q:Exit → Act → World → Prop} (hgd:o.guard = none) (s x:Operand)
 (ho:o.op = .call { callee:=.builtin .append,args:=#[s,x],argTypes:=#[26,26] })
 (B:Nat) (v:Value) (xs:List Int) (hs:a.eval s = v) (hown:OwnI w B v xs) (u:Value) (ys:List Int) (hx:a.eval x = u) (hu:IntsR w S u ys)
 (hn:xs.length + ys.length ≤ 4194304) (hB:B ≤ w.heap.size)
 (h:∀ A c w',OwnI w' B (.slice A (xs.length + ys.length) c) (xs ++ ys) → w.grownBy w' v.ownBlock → wpList Tryz.prog ops Q rest (a.put o.dst (.slice A (xs.length + ys.length) c)) w'):wpList Tryz.prog ops Q (o :: rest) a w:=by
 obtain ⟨i0,hi,hz0,hz1,hz2⟩:=info_parts sn;obtain ⟨A,c,rfl,hnc,hm,hc⟩:=hu
 rcases A with _ | ad
 ·have h0:ys.length = 0:=by
   rcases Nat.eq_zero_or_pos ys.length with h | h
   ·exact h
   ·obtain ⟨b,off,hA,_⟩:=hc h;cases hA
  obtain rfl:ys = []:=List.eq_nil_of_length_eq_zero h0;obtain ⟨A,c',rfl⟩:=hown.shape;have h2:=h A c' w (by simpa using hown) (World.grownBy.refl _ _);refine wpList_plain hgd fun K hK=>?_;have hrun:=Bs w B o.type _ xs hown c;unfold Oper.wp;simp only [List.length_nil,Nat.add_zero] at hx h2;simp [execOp,ho,resolve,invoke,builtin,hs,hx,hrun,Result.andThen];exact hK _ _ h2
 ·refine wpList_append_own_at w hgd s x _ ho B 3 i0 _ 1 8 Tryz.underlying26 hi hz0 hz1 hz2 rfl (by omega) v xs.length (ic xs) hs hown ad ys.length c (ic ys) hx (by simp [ic]) ?_ ?_ ?_ ?_ hB ?_
  ·intro j u hu
   by_cases hj:j < ys.length
   ·obtain ⟨b,off,hA,-,hcell⟩:=hc (by omega);have hA':=Option.some.inj hA;rw [yw hj] at hu;have hu':=Option.some.inj hu;rw [hA',← hu',← hcell j hj,xm]
   ·rw [List.getElem?_eq_none (by simp [ic]; omega)] at hu;cases hu
  ·intro u hu;simp only [ic,List.mem_map] at hu;obtain ⟨z,_,rfl⟩:=hu;rfl
  ·unfold maxLen; omega
  ·omega
  ·intro v' w' ho' hgr _ _
   have ho2:OwnI w' B v' (xs ++ ys):=by
    unfold OwnI ic;simpa [ic] using ho'
   obtain ⟨A,c,rfl⟩:=ho2.shape;simp only [List.length_append] at ho2 ⊢;exact h A c w' ho2 hgr
theorem OwnI.made {w:World} {B:Nat} (cs:Array Value) (hc:cs.size = 0) (hB:B ≤ w.heap.size):OwnI (w.alloc (.cells cs 3)) B (.slice (some ⟨w.heap.size,0,none⟩) 0 0) [] :=
 World.ownsRow_made w cs 0 hB (by simp [maxLen]) (by simpa using hc)
theorem zy {B:Nat} {w0 w w':World} {v:Value} {xs:List Int} (h:Below B w0 w) (ho:OwnI w B v xs) (hg:w.grownBy w' v.ownBlock) (hB:B ≤ w.heap.size):Below B w0 w' :=
 h.grown hg hB fun k hk=>(World.ownsRow.lt ho k hk).1
theorem OwnI.alloc {w:World} {B:Nat} {v:Value} {xs:List Int} (h:OwnI w B v xs) (o:Obj):OwnI (w.alloc o) B v xs:=World.ownsRow.alloc h o
theorem OwnI.put {w:World} {B g n cap j:Nat} {xs:List Int} (h:OwnI w B (.slice (some ⟨g,0,none⟩) n cap) xs) (hn:n = xs.length) (q:Int):OwnI (w.setCell ⟨g,j,none⟩ (.int .i64 q)) B (.slice (some ⟨g,0,none⟩) n cap) (xs.set j q):=by
 subst hn;have:=(World.ownsRow.stored h j (.int .i64 q)).1;unfold OwnI;rw [List.length_set];simpa [ic,List.map_set] using this
theorem OwnI.at_ {w:World} {B g n cap j:Nat} {xs:List Int} (h:OwnI w B (.slice (some ⟨g,0,none⟩) n cap) xs) (hn:n = xs.length) (hj:j < n):w.cell? ⟨g,j,none⟩ = some (.int .i64 (gi xs j)) ∧ w.frozen? ⟨g,j,none⟩ = false:=by
 subst hn;exact ⟨(World.ownsRow.cellAt h j (by omega)).trans (yw hj),World.ownsRow.frozenAt h j⟩
theorem OwnI.nil {w:World} {B:Nat}:OwnI w B (.slice none 0 0) []:=World.ownsRow_nil _ _ _ _
end
section
open Go.RowKit
theorem zu {a b c:World} {row:Option Nat} (h:a.grownBy b row) (k:b.grownBy c row):a.grownBy c row :=
 ⟨k.os.trans h.os,k.tape.trans h.tape,k.output.trans h.output,Nat.le_trans h.size k.size,fun i hi hne=>(k.block i (Nat.lt_of_lt_of_le hi h.size) hne).trans (h.block i hi hne)⟩
theorem j8 {a w:World} {row:Option Nat} (h:a.grownBy w row) (n:Nat):a.grownBy (w.drewN n) row:=⟨h.os,h.tape,h.output,h.size,h.block⟩
theorem E7 {a w:World} {g:Nat} (h:a.grownBy w (some g)) (i:Nat) (u:Value):a.grownBy (w.setCell ⟨g,i,none⟩ u) (some g) :=
 ⟨h.os,h.tape,h.output,by simpa [World.setCell] using h.size,fun k hk hne=>(Below.heap_setCell w ⟨g,i,none⟩ u k (by rintro rfl; exact hne rfl)).trans (h.block k hk hne)⟩
theorem OwnI.grown {w w':World} {B gc:Nat} {v:Value} {xs:List Int} (h:OwnI w B v xs) (hg:w.grownBy w' (some gc)) (hB:gc < B):OwnI w' B v xs :=
 h.keepB fun b hb hl=>hg.block b hl (by simp; omega)
theorem zv {a w w':World} {row:Option Nat} (h:a.grownBy w row) (hb:Below a.heap.size w w'):a.grownBy w' row :=
 ⟨hb.os.trans h.os,hb.tape.trans h.tape,hb.output.trans h.output,Nat.le_trans h.size hb.size,fun k hk hne=>(hb.block k hk).trans (h.block k hk hne)⟩
end
section
open Go.RowKit
set_option maxHeartbeats 400000 in
theorem oa {S:Nat → Prop} (v:Value) (xs:List Int) (w:World) (h:IntsR w S v xs) (hn:xs.length ≤ 2097152) :
 Calls Tryz.prog 104 #[v] w (Vs w xs):=by
 have HR:=Lib.hid h;clear h
 go_enter Tryz.func104,Tryz.ntmps104
 go_wp2_with (at_builtin; refine t6 _ rfl (.tmp 3) (.tmp 4) rfl w.heap.size _ [] rfl (OwnI.made _ rfl (Nat.le_refl _)) _ xs rfl (HR.out.below ((Below.refl _ _).alloc (Nat.le_refl _) _)) (by simp; omega) (by simp) ?_)
 intro A c w' ho hg;have HO:=Lib.hid ho;have HB:=Lib.hid (zy ((Below.refl w.heap.size w).alloc (Nat.le_refl _) (Obj.cells #[] 3)) (OwnI.made #[] rfl (Nat.le_refl _)) hg (by simp));clear ho hg
 go_wp2_with fail
 go_ret
 exact ⟨_,rfl,by simpa using HO.out,HB.out⟩
end
section
open Go.RowKit
structure LowB (B:Nat) (w w':World):Prop where
 os:w'.os = w.os
 tape:w'.tape = w.tape
 output:w'.output = w.output
 size:w.heap.size ≤ w'.heap.size
 block:∀ k,k < B → w'.heap[k]? = w.heap[k]?
section
variable {B:Nat} {w w1 w2:World}
theorem LowB.trans (h:LowB B w w1) (k:LowB B w1 w2):LowB B w w2 :=
 ⟨k.os.trans h.os,k.tape.trans h.tape,k.output.trans h.output,Nat.le_trans h.size k.size,fun b hb=>(k.block b hb).trans (h.block b hb)⟩
theorem LowB.of_grown {row:Option Nat} (h:w.grownBy w1 row) (hB:B ≤ w.heap.size) (hr:∀ g,row = some g → B ≤ g):LowB B w w1 :=
 ⟨h.os,h.tape,h.output,h.size,fun k hk=>h.block k (by omega) (fun e=>by have:=hr k e.symm; omega)⟩
theorem LowB.of_below (h:Below w.heap.size w w1) (hB:B ≤ w.heap.size):LowB B w w1 :=
 LowB.of_grown (zv (World.grownBy.refl w none) h) hB (fun g e=>by cases e)
theorem LowB.set {p:Addr} (hp:B ≤ p.block) (u:Value):LowB B w (w.setCell p u) :=
 ⟨rfl,rfl,rfl,by simp [World.setCell],fun k hk=>Below.heap_setCell w p u k (by omega)⟩
end
end
section
open Go.RowKit
def pc (es:List (Int × Int)):List Value:=es.flatMap fun e=>[.int .i64 e.1,.int .i64 e.2]
theorem Er (es:List (Int × Int)):(pc es).length = es.length * 2:=by
 induction es with
 | nil=>rfl
 | cons e es ih=>simp only [pc,List.flatMap_cons,List.length_append,List.length_cons,List.length_nil] at ih ⊢; omega
theorem P4 (es fs:List (Int × Int)):pc (es ++ fs) = pc es ++ pc fs:=by simp [pc]
theorem Lb {es:List (Int × Int)} {j:Nat} (h:j < es.length):(pc es)[j * 2]? = some (.int .i64 (gp es j).1) ∧ (pc es)[j * 2 + 1]? = some (.int .i64 (gp es j).2):=by
 induction es generalizing j with
 | nil=>simp at h
 | cons e es ih =>
  rcases j with _ | j
  ·simp [pc,gp]
  ·have hj:j < es.length:=by simpa using h
   have:=ih hj;have e1:pc (e :: es) = .int .i64 e.1 :: .int .i64 e.2 :: pc es:=by simp [pc]
   rw [e1,show (j + 1) * 2 = j * 2 + 1 + 1 by omega];simp only [List.getElem?_cons_succ,gp,List.getD_cons_succ];exact this
theorem Zn {es:List (Int × Int)}:∀ v ∈ pc es,v.oneCell' = true:=by
 intro v hv;simp only [pc,List.mem_flatMap] at hv;obtain ⟨e,_,h⟩:=hv;simp at h
 rcases h with rfl | rfl <;> rfl
theorem OwnI.keepO {w w':World} {B:Nat} {v:Value} {xs:List Int} (h:OwnI w B v xs) (hk:∀ b,v.ownBlock = some b → w'.heap[b]? = w.heap[b]?):OwnI w' B v xs:=by
 obtain ⟨h1,h2⟩:=h;refine ⟨h1,?_⟩
 rcases h2 with h2 | ⟨g,cap,cur,rfl,hB,hg,h⟩
 ·exact .inl h2
 ·exact .inr ⟨g,cap,cur,rfl,hB,(hk g rfl).trans hg,h⟩
theorem OwnI.blk {w:World} {B:Nat} {v:Value} {xs:List Int} (h:OwnI w B v xs):∀ g,v.ownBlock = some g → B ≤ g ∧ g < w.heap.size:=fun g hg=>World.ownsRow.lt h g hg
def So (w:World) (p:Nat) (x y z:Value):World:=((w.setCell ⟨p,0,none⟩ x).setCell ⟨p,1,none⟩ y).setCell ⟨p,2,none⟩ z
theorem lu (w:World) (p:Nat) (x y z:Value) {b:Nat} (h:b ≠ p):(So w p x y z).heap[b]? = w.heap[b]? :=
 ((Below.heap_setCell _ _ _ b h).trans (Below.heap_setCell _ _ _ b h)).trans (Below.heap_setCell _ _ _ b h)
theorem Bp {w:World} {p:Nat} {t:TypeId} {a b c x y z:Value} (h:Blk w p t #[a,b,c]):Blk (So w p x y z) p t #[x,y,z]:=((h.put 0 x).put 1 y).put 2 z
theorem uc {B p:Nat} {a w:World} (h:Below B a w) (hp:B ≤ p) (x y z:Value):Below B a (So w p x y z):=((h.setCell hp _).setCell hp _).setCell hp _
def OwnE (w:World) (B:Nat) (v:Value) (es:List (Int × Int)):Prop:=w.ownsRow B 97 2 v es.length (pc es)
section
variable {w w':World} {B B':Nat} {v:Value} {es:List (Int × Int)}
theorem OwnE.keepB (h:OwnE w B v es) (hk:∀ b,v.ownBlock = some b → w'.heap[b]? = w.heap[b]?):OwnE w' B v es:=by
 obtain ⟨h1,h2⟩:=h;refine ⟨h1,?_⟩
 rcases h2 with h2 | ⟨g,cap,cur,rfl,hB,hg,h⟩
 ·exact .inl h2
 ·exact .inr ⟨g,cap,cur,rfl,hB,(hk g rfl).trans hg,h⟩
theorem OwnE.lt (h:OwnE w B v es):∀ g,v.ownBlock = some g → B ≤ g ∧ g < w.heap.size:=fun g hg=>World.ownsRow.lt h g hg
theorem OwnE.below (h:OwnE w B v es) (hb:Below w.heap.size w w'):OwnE w' B v es:=h.keepB fun b hv=>hb.block b (h.lt b hv).2
theorem OwnE.mono (h:OwnE w B v es) (hB:B' ≤ B):OwnE w B' v es:=by
 obtain ⟨h1,h2⟩:=h;refine ⟨h1,?_⟩
 rcases h2 with h2 | ⟨g,cap,cur,hv,hb,h⟩
 ·exact .inl h2
 ·exact .inr ⟨g,cap,cur,hv,by omega,h⟩
theorem OwnE.shape (h:OwnE w B v es):∃ A c,v = .slice A es.length c:=by
 rcases h.2 with ⟨rfl,hn⟩ | ⟨g,cap,cur,rfl,_⟩
 ·exact ⟨none,0,by rw [hn]⟩
 ·exact ⟨_,_,rfl⟩
theorem OwnE.nil:OwnE w B (.slice none 0 0) []:=World.ownsRow_nil _ _ _ _
theorem OwnE.made (cs:Array Value) (hc:cs.size = 0) (hB:B ≤ w.heap.size):OwnE (w.alloc (.cells cs 97)) B (.slice (some ⟨w.heap.size,0,none⟩) 0 0) [] :=
 World.ownsRow_made w cs 0 hB (by simp [maxLen]) (by simpa using hc)
theorem OwnE.type (h:OwnE w B v es):∀ g,v.ownBlock = some g → ∃ cs,w.heap[g]? = some (.cells cs 97 (0,0)):=by
 intro g hg
 rcases h.2 with ⟨rfl,hn⟩ | ⟨g',cap,cur,rfl,hB,hh,_⟩
 ·cases hg
 ·cases hg; exact ⟨cur,hh⟩
end
def OwnEs (w:World) (B:Nat) (v:Value) (ess:List (List (Int × Int))):Prop :=
 ∃ us:Nat → Value,w.ownsRow B 95 1 v ess.length ((List.range ess.length).map us) ∧ (∀ i,i < ess.length → OwnE w B (us i) (gl ess i)) ∧
  ∀ i j,i < ess.length → j < ess.length → i ≠ j → ∀ g,(us i).ownBlock = some g → (us j).ownBlock ≠ some g
section
variable {w w':World} {B B':Nat} {v:Value} {ess:List (List (Int × Int))}
theorem OwnEs.keepB (h:OwnEs w B v ess) (hk:∀ b,B ≤ b → b < w.heap.size → w'.heap[b]? = w.heap[b]?):OwnEs w' B v ess:=by
 obtain ⟨us,h1,h2,h3⟩:=h;refine ⟨us,⟨h1.1,?_⟩,fun i hi=>(h2 i hi).keepB fun b hb=>hk b ((h2 i hi).lt b hb).1 ((h2 i hi).lt b hb).2,h3⟩
 rcases h1.2 with h4 | ⟨g,cap,cur,rfl,hB,hg,hr⟩
 ·exact .inl h4
 ·exact .inr ⟨g,cap,cur,rfl,hB,(hk g hB (Array.getElem?_eq_some_iff.1 hg).1).trans hg,hr⟩
theorem OwnEs.mono (h:OwnEs w B v ess) (hB:B' ≤ B):OwnEs w B' v ess:=by
 obtain ⟨us,h1,h2,h3⟩:=h;refine ⟨us,⟨h1.1,?_⟩,fun i hi=>(h2 i hi).mono hB,h3⟩
 rcases h1.2 with h4 | ⟨g,cap,cur,hv,hb,hr⟩
 ·exact .inl h4
 ·exact .inr ⟨g,cap,cur,hv,by omega,hr⟩
theorem OwnEs.nil:OwnEs w B (.slice none 0 0) []:=⟨fun _=>.slice none 0 0,World.ownsRow_nil _ _ _ _,fun _ hi=>absurd hi (Nat.not_lt_zero _),fun _ _ hi=>absurd hi (Nat.not_lt_zero _)⟩
theorem Pv {us:Nat → Value} {n j:Nat} (h:j < n):((List.range n).map us)[j]? = some (us j):=by simp [h]
end
def KeptBut (T:TypeId) (w w':World):Prop:=∀ (b:Nat) (cs:Array Value) (t:TypeId) (fr:Nat × Nat),w.heap[b]? = some (.cells cs t fr) → t ≠ T → w'.heap[b]? = w.heap[b]?
theorem KeptBut.trans {T:TypeId} {a b c:World} (h:KeptBut T a b) (k:KeptBut T b c):KeptBut T a c:=fun x cs t fr hx ht=>(k x cs t fr ((h x cs t fr hx ht).trans hx) ht).trans (h x cs t fr hx ht)
theorem KeptBut.of_below {T:TypeId} {w w':World} (h:Below w.heap.size w w'):KeptBut T w w':=fun b _ _ _ hx _=>h.block b (Array.getElem?_eq_some_iff.1 hx).1
theorem KeptBut.of_grown {T:TypeId} {w w':World} {row:Option Nat} (h:w.grownBy w' row) (hr:∀ g,row = some g → ∃ cs fr,w.heap[g]? = some (.cells cs T fr)):KeptBut T w w':=fun b cs t fr hx ht =>
 h.block b (Array.getElem?_eq_some_iff.1 hx).1 (fun e=>by
  obtain ⟨cs',fr',h1⟩:=hr b e.symm;rw [hx] at h1;simp at h1
  exact ht h1.2.1)
theorem KeptBut.of_set {T:TypeId} {w:World} {p:Addr} {cs:Array Value} {fr:Nat × Nat} (h:w.heap[p.block]? = some (.cells cs T fr)) (u:Value):KeptBut T w (w.setCell p u):=fun b cs' t fr' hx ht =>
 Below.heap_setCell w p u b (fun e=>by
  rw [e,h] at hx;simp at hx
  exact ht hx.2.1.symm)
theorem OwnI.but {T:TypeId} {w w':World} {B:Nat} {v:Value} {xs:List Int} (h:OwnI w B v xs) (hk:KeptBut T w w') (hT:3 ≠ T):OwnI w' B v xs:=by
 obtain ⟨h1,h2⟩:=h;refine ⟨h1,?_⟩
 rcases h2 with h2 | ⟨g,cap,cur,rfl,hB,hg,h⟩
 ·exact .inl h2
 ·exact .inr ⟨g,cap,cur,rfl,hB,(hk g _ _ _ hg hT).trans hg,h⟩
theorem OwnE.but {T:TypeId} {w w':World} {B:Nat} {v:Value} {es:List (Int × Int)} (h:OwnE w B v es) (hk:KeptBut T w w') (hT:97 ≠ T):OwnE w' B v es:=by
 obtain ⟨h1,h2⟩:=h;refine ⟨h1,?_⟩
 rcases h2 with h2 | ⟨g,cap,cur,rfl,hB,hg,h⟩
 ·exact .inl h2
 ·exact .inr ⟨g,cap,cur,rfl,hB,(hk g _ _ _ hg hT).trans hg,h⟩
theorem OwnEs.but {T:TypeId} {w w':World} {B:Nat} {v:Value} {ess:List (List (Int × Int))} (h:OwnEs w B v ess) (hk:KeptBut T w w') (hT:97 ≠ T) (hT2:95 ≠ T):OwnEs w' B v ess:=by
 obtain ⟨us,h1,h2,h3⟩:=h;refine ⟨us,⟨h1.1,?_⟩,fun i hi=>(h2 i hi).but hk hT,h3⟩
 rcases h1.2 with h4 | ⟨g,cap,cur,rfl,hB,hg,hr⟩
 ·exact .inl h4
 ·exact .inr ⟨g,cap,cur,rfl,hB,(hk g _ _ _ hg hT2).trans hg,hr⟩
theorem Wl {w:World} {B:Nat} {t:TypeId} {sz:Nat} {v:Value} {n:Nat} {xs:List Value} (h:w.ownsRow B t sz v n xs):∀ g,v.ownBlock = some g → ∃ cs fr,w.heap[g]? = some (.cells cs t fr):=fun g hg=>by
 rcases h.2 with ⟨rfl,_⟩ | ⟨g',cap,cur,rfl,_,hh,_⟩
 ·cases hg
 ·cases hg; exact ⟨cur,_,hh⟩
def Vv (w:World) (B:Nat) (v:Value) (N:Net):Prop :=
 ∃ ve vi vn,v = .agg #[ve,vi,vn] ∧ OwnEs w B ve N.ends ∧ OwnI w B vi N.ids ∧ OwnI w B vn N.inputs ∧ ∀ g,vi.ownBlock = some g → vn.ownBlock ≠ some g
section
variable {w w':World} {B B':Nat} {v:Value} {N:Net}
end
def Yv (w:World) (N:Net) (e:Ending) (w':World):Prop:=∃ v,e = .returned v ∧ Vv w' w.heap.size v N ∧ Below w.heap.size w w'
theorem Z7:(Tryz.prog.info? 97).map (fun i=>(i.zero,i.size,i.bytes)) = some (some (.agg #[.int .i64 0,.int .i64 0]),2,16):=by kernel_rfl
theorem Oq:(Tryz.prog.info? 95).map (fun i=>(i.zero,i.size,i.bytes)) = some (some (.slice none 0 0),1,24):=by kernel_rfl
end
section
open Go.RowKit
def X7 (w:World) (v v':Value):Prop:=∀ g,v'.ownBlock = some g → v.ownBlock = some g ∨ g = w.heap.size
theorem Aa {S:Nat → Prop} (w:World) (ty:TypeId) (B:Nat) (v:Value) (xs:List (Int × Int)) (hown:OwnE w B v xs) (u:Value) (ys:List (Int × Int)) (hu:EndsR w S u ys) (hn:xs.length + ys.length ≤ 1048576) (hB:B ≤ w.heap.size) :
 ∃ A c w',(Builtin.append_ #[95,95] ty #[v,u]).run Tryz.prog w = .ok (.slice A (xs.length + ys.length) c) w' ∧ OwnE w' B (.slice A (xs.length + ys.length) c) (xs ++ ys) ∧ w.grownBy w' v.ownBlock ∧ X7 w v (.slice A (xs.length + ys.length) c):=by
 obtain ⟨i0,hi,hz0,hz1,hz2⟩:=info_parts Z7;obtain ⟨A,c,rfl,hnc,hm,hc⟩:=hu
 rcases A with _ | ad
 ·have h0:ys.length = 0:=by
   rcases Nat.eq_zero_or_pos ys.length with h | h
   ·exact h
   ·obtain ⟨b,off,hA,_⟩:=hc h;cases hA
  obtain rfl:ys = []:=List.eq_nil_of_length_eq_zero h0;obtain ⟨A,c',rfl⟩:=hown.shape;refine ⟨A,c',w,?_,by simpa using hown,World.grownBy.refl _ _,fun g hg=>.inl hg⟩
  rcases hown.2 with ⟨h1,h0⟩ | ⟨g,cap,cur,h1,_,_,hnc,_⟩
  ·obtain rfl:xs = []:=List.eq_nil_of_length_eq_zero h0;cases h1;simp [Builtin.append_,run_underlying Tryz.underlying95,sizeOf,typeInfo,hi,Builtin.lenOf,Builtin.firstCells]
  ·cases h1;simp [Builtin.append_,run_underlying Tryz.underlying95,sizeOf,typeInfo,hi,Builtin.lenOf,Builtin.firstCells,hnc,storeCells]
 ·obtain ⟨v',w',hr,h2,h3,h4,h5⟩:=run_append_own_at (P:=Tryz.prog) w B 95 ty 97 i0 _ 2 16 Tryz.underlying95 hi hz0 hz1 hz2 rfl (by omega) v xs.length (pc xs) hown ad ys.length c (pc ys) (Er ys) (by
   intro j q hq
   have hjl:j < ys.length * 2:=by
    have:=(List.getElem?_eq_some_iff.1 hq).1;rw [Er] at this; exact this
   obtain ⟨b,off,hA,-,hcell⟩:=hc (by omega);have hA':=Option.some.inj hA;rw [hA',xm];obtain ⟨k,hk⟩:∃ k,j = k * 2 ∨ j = k * 2 + 1:=⟨j / 2,by omega⟩
   rcases hk with rfl | rfl
   ·have:=(Lb (es:=ys) (j:=k) (by omega)).1;rw [this] at hq;rw [← Option.some.inj hq];exact (hcell k (by omega)).1
   ·have:=(Lb (es:=ys) (j:=k) (by omega)).2;rw [this] at hq;rw [← Option.some.inj hq]
    exact (hcell k (by omega)).2) Zn (by unfold maxLen; omega) (by omega) hB
  have ho2:OwnE w' B v' (xs ++ ys):=by
   unfold OwnE;rw [List.length_append,P4]; exact h2
  obtain ⟨A',c',rfl⟩:=ho2.shape;rw [List.length_append] at hr ho2 h5;refine ⟨A',c',w',hr,ho2,h3,fun g hg=>?_⟩
  rcases h5 with h5 | h5
  ·exact .inl (h5 ▸ hg)
  ·rw [hg] at h5; exact .inr (Option.some.inj h5)
theorem xz {S:Nat → Prop} (w:World) {ops:Array Oper} {o:Oper} {a:Act} {K:Act → World → Prop} {Q:Exit → Act → World → Prop} {E:Prop} (hgd:o.guard = none) (s x:Operand)
 (ho:o.op = .call { callee:=.builtin .append,args:=#[s,x],argTypes:=#[95,95] })
 (B:Nat) (v:Value) (xs:List (Int × Int)) (hs:a.eval s = v) (hown:OwnE w B v xs) (u:Value) (ys:List (Int × Int)) (hx:a.eval x = u) (hu:EndsR w S u ys) (hn:xs.length + ys.length ≤ 1048576) (hB:B ≤ w.heap.size)
 (h:∀ A c w',OwnE w' B (.slice A (xs.length + ys.length) c) (xs ++ ys) → w.grownBy w' v.ownBlock → X7 w v (.slice A (xs.length + ys.length) c) → K (a.put o.dst (.slice A (xs.length + ys.length) c)) w') :
 if Region.wanted o (yielded ops a.tmps) = true then Oper.wp Tryz.prog o a w K Q else E:=by
 have hw:Region.wanted o (yielded ops a.tmps) = true:=by simp [Region.wanted,hgd]
 rw [if_pos hw];obtain ⟨A,c,w',hr,h2,h3,h4⟩:=Aa w o.type B v xs hown u ys hu hn hB;unfold Oper.wp execOp;simp only [ho,resolve,invoke,builtin,Sem.run_bind,Sem.run_pure,Result.andThen_ok,List.map_toArray,List.map_cons,List.map_nil,hs,hx,hr];exact h A c w' h2 h3 h4
theorem x7 (w:World) (ty:TypeId) (B:Nat) (v:Value) (n:Nat) (us:List Value) (hown:w.ownsRow B 95 1 v n us) (g:Nat) (A1:Option Addr) (n1 c1:Nat) (hg:Blk w g 95 #[.slice A1 n1 c1]) (hn:n ≤ 1048576) (hB:B ≤ w.heap.size) :
 ∃ A c w',(Builtin.append_ #[29,29] ty #[v,.slice (some ⟨g,0,none⟩) 1 1]).run Tryz.prog w = .ok (.slice A (n + 1) c) w' ∧ w'.ownsRow B 95 1 (.slice A (n + 1) c) (n + 1) (us ++ [.slice A1 n1 c1]) ∧ w.grownBy w' v.ownBlock ∧ X7 w v (.slice A (n + 1) c):=by
 obtain ⟨i0,hi,hz0,hz1,hz2⟩:=info_parts Oq
 obtain ⟨v',w',hr,h2,h3,h4,h5⟩:=run_append_own_at (P:=Tryz.prog) w B 29 ty 95 i0 _ 1 24 Tryz.underlying29 hi hz0 hz1 hz2 rfl (by omega) v n us hown ⟨g,0,none⟩ 1 1 [.slice A1 n1 c1] rfl (by
  intro j q hq
  rcases j with _ | j
  ·simp at hq; subst hq;rw [xm,hg.cell]; rfl
  ·simp at hq) (by simp [Value.oneCell']) (by unfold maxLen; omega) (by omega) hB
 rcases h2.2 with ⟨_,h0⟩ | ⟨g',cap,cur,rfl,hrest⟩
 ·omega
 ·refine ⟨_,cap,w',hr,h2,h3,fun k hk=>?_⟩
  rcases h5 with h5 | h5
  ·exact .inl (h5 ▸ hk)
  ·rw [hk] at h5; exact .inr (Option.some.inj h5)
theorem v7 (w:World) {ops:Array Oper} {o:Oper} {a:Act} {K:Act → World → Prop} {Q:Exit → Act → World → Prop} {E:Prop} (hgd:o.guard = none) (s x:Operand)
 (ho:o.op = .call { callee:=.builtin .append,args:=#[s,x],argTypes:=#[29,29] })
 (B:Nat) (v:Value) (n:Nat) (us:List Value) (hs:a.eval s = v) (hown:w.ownsRow B 95 1 v n us) (g:Nat) (A1:Option Addr) (n1 c1:Nat) (hx:a.eval x = .slice (some ⟨g,0,none⟩) 1 1) (hg:Blk w g 95 #[.slice A1 n1 c1]) (hn:n ≤ 1048576) (hB:B ≤ w.heap.size)
 (h:∀ A c w',w'.ownsRow B 95 1 (.slice A (n + 1) c) (n + 1) (us ++ [.slice A1 n1 c1]) → w.grownBy w' v.ownBlock → X7 w v (.slice A (n + 1) c) → K (a.put o.dst (.slice A (n + 1) c)) w') :
 if Region.wanted o (yielded ops a.tmps) = true then Oper.wp Tryz.prog o a w K Q else E:=by
 have hw:Region.wanted o (yielded ops a.tmps) = true:=by simp [Region.wanted,hgd]
 rw [if_pos hw];obtain ⟨A,c,w',hr,h2,h3,h4⟩:=x7 w o.type B v n us hown g A1 n1 c1 hg hn hB;unfold Oper.wp execOp;simp only [ho,resolve,invoke,builtin,Sem.run_bind,Sem.run_pure,Result.andThen_ok,List.map_toArray,List.map_cons,List.map_nil,hs,hx,hr];exact h A c w' h2 h3 h4
end
section
open Go.RowKit
structure Enc (α:Type) where
 k:Nat
 enc:α → List Value
 len:∀ x,(enc x).length = k
 pos:0 < k
 one:∀ x,∀ v ∈ enc x,v.oneCell' = true
variable {α:Type}
section
variable [Inhabited α]
end
section
variable [Inhabited α] {E:Enc α} {w w':World} {S S':Nat → Prop} {v:Value} {xs:List α}
end
section
variable {E:Enc α} {T:TypeId} {w w':World} {B B':Nat} {v:Value} {xs:List α}
end
section
variable [Inhabited α] {P:Program} {E:Enc α} {st T:TypeId}
end
end
section
open Go.RowKit
theorem OwnEs.of_rowIs {w:World} {B g n:Nat} (h:w.rowIs g 95 n (fun _=>.slice none 0 0)) (hB:B ≤ g) (hm:n ≤ maxLen):OwnEs w B (.slice (some ⟨g,0,none⟩) n n) (List.replicate n []):=by
 obtain ⟨c,hc,hs,hf⟩:=h;refine ⟨fun _=>.slice none 0 0,?_,fun i _=>by rw [pi]; exact OwnE.nil,fun _ _ _ _ _ g hg=>by cases hg⟩;rw [List.length_replicate];refine ⟨by simp,.inr ⟨g,n,c,rfl,hB,hc,Nat.le_refl _,hm,by omega,?_⟩⟩;apply List.ext_getElem?;intro i
 by_cases hi:i < n
 ·rw [List.getElem?_take_of_lt (by omega),Pv hi];simpa using hf i hi
 ·rw [List.getElem?_eq_none (by simp; omega),List.getElem?_eq_none (by simp; omega)]
end
section
open Go.RowKit
theorem eo (n lo hi:Int) (w:World) :
 Calls Tryz.prog 97 #[.int .i64 n,.int .i64 lo,.int .i64 hi] w (RetQ w (.bool (inB n lo hi))):=by
 by_cases h1:lo ≤ n
 ·have e1:decide (lo ≤ n) = true:=by simp [h1]
  by_cases h2:n ≤ hi
  ·have HE:Hid (inB n lo hi = true):=by simp [Hid,inB,h1,h2]
   go_enter Tryz.func97,Tryz.ntmps97
   go_wp2
   go_ret
   exact ⟨by rw [HE.out]; rfl,rfl⟩
  ·have HE:Hid (inB n lo hi = false):=by simp [Hid,inB,h2]
   have e2:decide (n ≤ hi) = false:=by simp [h2]
   go_enter Tryz.func97,Tryz.ntmps97
   go_wp2
   go_ret
   exact ⟨by rw [HE.out]; rfl,rfl⟩
 ·have HE:Hid (inB n lo hi = false):=by simp [Hid,inB,h1]
  have e1:decide (lo ≤ n) = false:=by simp [h1]
  go_enter Tryz.func97,Tryz.ntmps97
  go_wp2
  go_ret
  exact ⟨by rw [HE.out]; rfl,rfl⟩
set_option maxHeartbeats 400000 in
theorem yt {S:Nat → Prop} (v:Value) (xs:List Int) (n:Int) (w:World) (h:IntsR w S v xs) :
 Calls Tryz.prog 82 #[v,.int .i64 n] w (RetQ w (.bool (nk xs n))):=by
 have hb:=h.bound;obtain ⟨A,c,rfl,hnc,hm,hx⟩:=h;have HX:=Lib.hid hx;clear hx
 go_enter Tryz.func82,Tryz.ntmps82
 go_wp2
 go_loop [9] (fun i=>∃ k:Nat,k ≤ xs.length ∧ i = .int .i64 k ∧ ∀ j,j < k → gi xs j ≠ n) (fun i=>xs.length - (intOf i).toNat)
 case atStart=>exact ⟨0,Nat.zero_le _,rfl,fun j hj=>absurd hj (Nat.not_lt_zero _)⟩
 case round =>
  obtain ⟨k,hk,rfl,hs⟩:=hrel;have HS:=Lib.hid hs;clear hs
  by_cases hlt:k < xs.length
  ·obtain ⟨b,off,rfl,-,hc⟩:=HX.out (by omega);have h1:=hc k hlt;clear hc
   by_cases he:gi xs k = n
   ·have HT:=Lib.hid (Cq hlt he);have e2:(gi xs k == n) = true:=by simp [he]
    clear he
    go_wp2
    go_ret
    exact ⟨by rw [HT.out]; rfl,rfl⟩
   ·have e2:(gi xs k == n) = false:=by simp [he]
    have HE:=Lib.hid he;clear he
    go_wp2
    go_round
    case rel =>
     refine ⟨k + 1,by omega,by go_num,fun j hj=>?_⟩
     by_cases h1:j = k
     ·subst h1; exact HE.out
     ·exact HS.out j (by omega)
    case measure=>simp [intOf]; omega
  ·have HT:Hid (nk xs n = false):=Cr.2 fun j hj=>HS.out j (by omega)
   go_wp2
   go_ret
   exact ⟨by rw [HT.out]; rfl,rfl⟩
set_option maxHeartbeats 400000 in
theorem E4 {S:Nat → Prop} (v:Value) (xs:List Int) (lo hi:Int) (w:World) (h:IntsR w S v xs) :
 Calls Tryz.prog 80 #[v,.int .i64 lo,.int .i64 hi] w (RetQ w (.bool (qq xs lo hi))):=by
 have hb:=h.bound;obtain ⟨A,c,rfl,hnc,hm,hx⟩:=h;have HX:=Lib.hid hx;clear hx
 go_enter Tryz.func80,Tryz.ntmps80
 go_wp2
 go_loop [11] (fun i=>∃ k:Nat,k ≤ xs.length ∧ i = .int .i64 k ∧ ∀ j,j < k → inB (gi xs j) lo hi = true) (fun i=>xs.length - (intOf i).toNat)
 case atStart=>exact ⟨0,Nat.zero_le _,rfl,fun j hj=>absurd hj (Nat.not_lt_zero _)⟩
 case round =>
  obtain ⟨k,hk,rfl,hs⟩:=hrel;have HS:=Lib.hid hs;clear hs
  by_cases hlt:k < xs.length
  ·obtain ⟨b,off,rfl,-,hc⟩:=HX.out (by omega);have h1:=hc k hlt;clear hc;cases he:inB (gi xs k) lo hi
   ·have HT:Hid (qq xs lo hi = false):=by
     show _ = false;rw [← Bool.not_eq_true,r8];intro h; have:=h k hlt; rw [he] at this; cases this
    have HE:=Lib.hid he;clear he
    go_wp2_with (go_at_call 97; refine (eo _ _ _ _).mono ?_; rintro e w1 ⟨rfl,rfl⟩; rw [HE.out])
    go_ret
    exact ⟨by rw [HT.out]; rfl,rfl⟩
   ·have HE:=Lib.hid he;clear he
    go_wp2_with (go_at_call 97; refine (eo _ _ _ _).mono ?_; rintro e w1 ⟨rfl,rfl⟩; rw [HE.out])
    go_round
    case rel =>
     refine ⟨k + 1,by omega,by go_num,fun j hj=>?_⟩
     by_cases h1:j = k
     ·subst h1; exact HE.out
     ·exact HS.out j (by omega)
    case measure=>simp [intOf]; omega
  ·have HT:Hid (qq xs lo hi = true):=r8.2 fun j hj=>HS.out j (by omega)
   go_wp2
   go_ret
   exact ⟨by rw [HT.out]; rfl,rfl⟩
theorem IntsR.take {w:World} {S:Nat → Prop} {A:Option Addr} {c k:Nat} {xs:List Int} (h:0 < xs.length → ∃ b off,A = some ⟨b,off,none⟩ ∧ S b ∧ ∀ j,j < xs.length → w.cell? ⟨b,off + j,none⟩ = some (.int .i64 (gi xs j)))
 (hk:k ≤ xs.length) (hc:xs.length ≤ c) (hm:c ≤ maxLen):IntsR w S (.slice A k c) (xs.take k):=by
 have hl:(xs.take k).length = k:=by simp [hk]
 refine ⟨A,c,by rw [hl],by omega,hm,fun hn=>?_⟩;obtain ⟨b,off,hA,hS,hcell⟩:=h (by omega);refine ⟨b,off,hA,hS,fun j hj=>?_⟩;rw [hcell j (by omega)];simp [gi,show j < k by omega]
set_option maxRecDepth 100000 in
set_option maxHeartbeats 800000 in
theorem Qe {S:Nat → Prop} (v:Value) (xs:List Int) (n:Int) (w:World) (h:IntsR w S v xs) :
 Calls Tryz.prog 98 #[v,.int .i64 n] w (RetQ w (.bool (w9 xs n))):=by
 have hb:=h.bound;obtain ⟨A,c,rfl,hnc,hm,hx⟩:=h;have HX:=Lib.hid hx;have HM:=Lib.hid hm;clear hx hm
 go_enter Tryz.func98,Tryz.ntmps98
 go_wp2
 go_loop [9] (fun i=>∃ k:Nat,k ≤ xs.length ∧ i = .int .i64 k ∧ Xe xs k) (fun i=>xs.length - (intOf i).toNat)
 case atStart=>exact ⟨0,Nat.zero_le _,rfl,fun j hj=>absurd hj (Nat.not_lt_zero _)⟩
 case round =>
  obtain ⟨k,hk,rfl,hs⟩:=hrel;have HS:=Lib.hid hs;clear hs
  by_cases hlt:k < xs.length
  ·have HR:=Lib.hid (IntsR.take HX.out hk hnc HM.out);obtain ⟨b,off,rfl,-,hc⟩:=HX.out (by omega);have h1:=hc k hlt;clear hc;have hck:(k:Int) ≤ (c:Int):=by omega
   cases he:inB (gi xs k) 1 999999
   ·have HT:Hid (w9 xs n = false):=by
     simp only [Hid,w9,Bool.and_eq_false_iff,decide_eq_false_iff_not];refine .inl fun h=>?_;have:=(h k hlt).1; rw [he] at this; cases this
    have HE:=Lib.hid he;clear he
    go_wp2_with (go_at_call 97; refine (eo _ _ _ _).mono ?_; rintro e w1 ⟨rfl,rfl⟩; rw [HE.out])
    go_ret
    exact ⟨by rw [HT.out]; rfl,rfl⟩
   ·have HE:=Lib.hid he;clear he;cases hh:nk (xs.take k) (gi xs k)
    ·have HH:=Lib.hid hh;clear hh
     go_wp2_with (first | (go_at_call 97; refine (eo _ _ _ _).mono ?_; rintro e w1 ⟨rfl,rfl⟩; rw [HE.out]) | (go_at_call 82; refine (yt _ _ _ _ HR.out).mono ?_; rintro e w1 ⟨rfl,rfl⟩; rw [HH.out]))
     go_round
     case rel =>
      refine ⟨k + 1,by omega,by go_num,fun j hj=>?_⟩
      by_cases h1:j = k
      ·subst h1; exact ⟨HE.out,HH.out⟩
      ·exact HS.out j (by omega)
     case measure=>simp [intOf]; omega
    ·have HT:Hid (w9 xs n = false):=by
      simp only [Hid,w9,Bool.and_eq_false_iff,decide_eq_false_iff_not];refine .inl fun h=>?_;have:=(h k hlt).2; rw [hh] at this; cases this
     have HH:=Lib.hid hh;clear hh
     go_wp2_with (first | (go_at_call 97; refine (eo _ _ _ _).mono ?_; rintro e w1 ⟨rfl,rfl⟩; rw [HE.out]) | (go_at_call 82; refine (yt _ _ _ _ HR.out).mono ?_; rintro e w1 ⟨rfl,rfl⟩; rw [HH.out]))
     go_ret
     exact ⟨by rw [HT.out]; rfl,rfl⟩
  ·obtain rfl:k = xs.length:=by omega
   have HT:Hid (w9 xs n = (xs.length == 0 || (xs.length:Int) == n)):=by
    simp only [Hid,w9];have h2:∀ i,i < xs.length → inB (gi xs i) 1 999999 = true ∧ nk (xs.take i) (gi xs i) = false:=HS.out;rw [decide_eq_true h2,Bool.true_and]
   by_cases h0:xs.length = 0
   ·have e0:((xs.length:Int) == 0) = true:=by simp [h0]
    have HV:Hid ((xs.length == 0 || (xs.length:Int) == n) = true):=by simp [Hid,h0]
    clear h0
    go_wp2
    go_ret
    exact ⟨by rw [HT.out,HV.out]; rfl,rfl⟩
   ·have e0:((xs.length:Int) == 0) = false:=by simp; exact fun h=>h0 (by simp [h])
    by_cases h2:(xs.length:Int) = n
    ·have e2:((xs.length:Int) == n) = true:=by simp [h2]
     have HV:Hid ((xs.length == 0 || (xs.length:Int) == n) = true):=by simp [Hid,h2]
     clear h0 h2
     go_wp2
     go_ret
     exact ⟨by rw [HT.out,HV.out]; rfl,rfl⟩
    ·have e2:((xs.length:Int) == n) = false:=by simp [h2]
     have HV:Hid ((xs.length == 0 || (xs.length:Int) == n) = false):=by simp [Hid,h0,h2]
     clear h0 h2
     go_wp2
     go_ret
     exact ⟨by rw [HT.out,HV.out]; rfl,rfl⟩
end
section
open Go.RowKit
def zs (ps:List Nat):List Int:=ps.map Int.ofNat
instance:Inhabited VT:=⟨.mk 0 0 [] []⟩
section
variable {w w':World} {S S':Nat → Prop}
end
end
section
structure Fine (N:Net):Prop where
 sym:Sym N.ends
 deg:∀ v,v < N.ends.length → dg N.ends v ≤ 6
 inp:∀ v,v < N.ends.length → 0 ≤ gi N.inputs v ∧ gi N.inputs v ≤ 9
theorem jv {N:Net} (h:bg N = true):Fine N:=by
 obtain ⟨h1,-,h3,h4,h5⟩:=fm.1 h;obtain ⟨h6,h7⟩:=vf.1 h5;refine ⟨h7,h6,fun v hv=>?_⟩;have:=db.1 (r8.1 h4 v (by omega));exact this
theorem Fine.at_ {N:Net} (h:Fine N) {v:Nat} (hv:v < N.ends.length) {e:Int × Int} (he:e ∈ gl N.ends v):∃ q j:Nat,e = ((q:Int),(j:Int)) ∧ q < N.ends.length ∧ j < (gl N.ends q).length ∧ j ≤ 5:=by
 obtain ⟨i,hi,rfl⟩:=List.getElem_of_mem he;obtain ⟨q,j,e1,hq,hj,-⟩:=h.sym v i hv hi;unfold pt at e1;rw [gb hi] at e1;have:=h.deg q hq;exact ⟨q,j,e1,hq,hj,by omega⟩
section
variable {N:Net}
end
section
variable {M N:Net}
end
end
section
def nd (N:Net) (w j:Nat):Nat:=(gp (gl N.ends w) j).1.toNat
def bk (N:Net) (w j:Nat):Nat:=(gp (gl N.ends w) j).2.toNat
theorem d9 {N:Net} (h:Sym N.ends) {a i:Nat} (ha:a < N.ends.length) (hi:i < (gl N.ends a).length) :
 nd N a i < N.ends.length ∧ bk N a i < (gl N.ends (nd N a i)).length ∧ nd N (nd N a i) (bk N a i) = a ∧ bk N (nd N a i) (bk N a i) = i ∧ gp (gl N.ends a) i = (((nd N a i:Nat):Int),((bk N a i:Nat):Int)):=by
 obtain ⟨b,j,h1,h2,h3,h4⟩:=h a i ha hi;have e1:gp (gl N.ends a) i = ((b:Int),(j:Int)):=h1;have n1:nd N a i = b:=by unfold nd; rw [e1]; rfl
 have n2:bk N a i = j:=by unfold bk; rw [e1]; rfl
 have e2:gp (gl N.ends b) j = ((a:Int),(i:Int)):=h4;rw [n1,n2];exact ⟨h2,h3,by unfold nd; rw [e2]; rfl,by unfold bk; rw [e2]; rfl,e1⟩
structure IsDist (N:Net) (v:Nat) (out:List Int):Prop where
 len:out.length = N.ends.length
 root:gi out v = 0
 zero:∀ w,w < N.ends.length → gi out w = 0 → w = v
 low:∀ w,w < N.ends.length → -1 ≤ gi out w
 back:∀ w,w < N.ends.length → 0 < gi out w → ∃ j,j < (gl N.ends w).length ∧ gi out (nd N w j) = gi out w - 1
 step:∀ w,w < N.ends.length → 0 ≤ gi out w → ∀ j,j < (gl N.ends w).length → 0 ≤ gi out (nd N w j) ∧ gi out (nd N w j) ≤ gi out w + 1
theorem IsDist.le {N:Net} {v:Nat} {x y:List Int} (hs:Sym N.ends) (hx:IsDist N v x) (hy:IsDist N v y):∀ (k:Nat) w,w < N.ends.length → gi x w = k → 0 ≤ gi y w ∧ gi y w ≤ k
 | 0,w,hw,h=>by
  have:=hx.zero w hw (by simpa using h);rw [this,hy.root]; simp
 | k + 1,w,hw,h=>by
  obtain ⟨j,hj,h2⟩:=hx.back w hw (by omega);obtain ⟨h3,h4,h5,-⟩:=d9 hs hw hj;have ih:=IsDist.le hs hx hy k _ h3 (by omega);have:=hy.step _ h3 ih.1 _ h4;rw [h5] at this;omega
theorem IsDist.unique {N:Net} {v:Nat} {x y:List Int} (hs:Sym N.ends) (hx:IsDist N v x) (hy:IsDist N v y):x = y:=by
 refine lj (hx.len.trans hy.len.symm) fun w hw=>?_;rw [hx.len] at hw;have h1:=hx.low w hw;have h2:=hy.low w hw
 by_cases hx0:0 ≤ gi x w
 ·obtain ⟨k,hk⟩:=Int.eq_ofNat_of_zero_le hx0;have h3:=IsDist.le hs hx hy k w hw hk;obtain ⟨m,hm⟩:=Int.eq_ofNat_of_zero_le h3.1;have h4:=IsDist.le hs hy hx m w hw hm;omega
 ·by_cases hy0:0 ≤ gi y w
  ·obtain ⟨k,hk⟩:=Int.eq_ofNat_of_zero_le hy0;have h3:=IsDist.le hs hy hx k w hw hk;omega
  ·omega
noncomputable def fo (N:Net) (v:Nat):List Int:=by classical exact if h:∃ out,IsDist N v out then h.choose else []
theorem IsDist.eq {N:Net} {v:Nat} {x:List Int} (hs:Sym N.ends) (h:IsDist N v x):x = fo N v:=by
 have hex:∃ out,IsDist N v out:=⟨x,h⟩;unfold fo;rw [dif_pos hex];exact h.unique hs hex.choose_spec
structure BfsI (N:Net) (v:Nat) (out:List Int) (done q:List Nat):Prop where
 len:out.length = N.ends.length
 root:gi out v = 0
 zero:∀ w,w < N.ends.length → gi out w = 0 → w = v
 low:∀ w,w < N.ends.length → -1 ≤ gi out w
 back:∀ w,w < N.ends.length → 0 < gi out w → ∃ j,j < (gl N.ends w).length ∧ gi out (nd N w j) = gi out w - 1
 mem:∀ w,w < N.ends.length → (0 ≤ gi out w ↔ w ∈ done ++ q)
 rng:∀ w ∈ done ++ q,w < N.ends.length
 nodup:(done ++ q).Nodup
 sorted:(done ++ q).Pairwise fun a b=>gi out a ≤ gi out b
 near:∀ h t,q = h :: t → ∀ x ∈ q,gi out x ≤ gi out h + 1
 step:∀ w ∈ done,∀ j,j < (gl N.ends w).length → 0 ≤ gi out (nd N w j) ∧ gi out (nd N w j) ≤ gi out w + 1
 bnd:∀ w,w < N.ends.length → gi out w ≤ done.length + 1
 hd:∀ h t,q = h :: t → gi out h ≤ done.length
structure BfsJ (N:Net) (v:Nat) (out:List Int) (done:List Nat) (w:Nat) (q:List Nat) (i:Nat):Prop where
 base:BfsI N v out done (w :: q)
 part:∀ j,j < i → j < (gl N.ends w).length → 0 ≤ gi out (nd N w j) ∧ gi out (nd N w j) ≤ gi out w + 1
theorem BfsI.pop {N:Net} {v:Nat} {out:List Int} {done q:List Nat} {w:Nat} (h:BfsI N v out done (w :: q)):BfsJ N v out done w q 0:=⟨h,fun j hj=>by omega⟩
theorem BfsI.len_le {N:Net} {v:Nat} {out:List Int} {done q:List Nat} (h:BfsI N v out done q):done.length + q.length ≤ N.ends.length:=by
 have hs:(done ++ q) ⊆ List.range N.ends.length:=fun x hx=>List.mem_range.2 (h.rng x hx);have:=h.nodup.length_le_of_subset hs;simpa using this
theorem BfsI.top {N:Net} {v:Nat} {out:List Int} {done q:List Nat} {w:Nat} (h:BfsI N v out done (w :: q)) {x:Nat} (hx:x < N.ends.length) (h0:0 ≤ gi out x):gi out x ≤ gi out w + 1:=by
 have hm:=(h.mem x hx).1 h0
 rcases List.mem_append.1 hm with hm | hm
 ·have:=List.pairwise_append.1 h.sorted;have:=this.2.2 x hm w (by simp);omega
 ·exact h.near w q rfl x hm
theorem BfsI.at0 {N:Net} {v:Nat} {out:List Int} {done q:List Nat} {w:Nat} (h:BfsI N v out done (w :: q)):w < N.ends.length ∧ 0 ≤ gi out w:=by
 have hw:=h.rng w (by simp);exact ⟨hw,(h.mem w hw).2 (by simp)⟩
theorem BfsJ.skip {N:Net} {v:Nat} {out:List Int} {done q:List Nat} {w i:Nat} (hs:Sym N.ends) (h:BfsJ N v out done w q i) (hi:i < (gl N.ends w).length) (h0:0 ≤ gi out (nd N w i)):BfsJ N v out done w q (i + 1):=by
 obtain ⟨hw,-⟩:=h.base.at0;have hn:=(d9 hs hw hi).1;refine ⟨h.base,fun j hj hjl=>?_⟩
 rcases Nat.lt_or_ge j i with hj' | hj'
 ·exact h.part j hj' hjl
 ·obtain rfl:j = i:=by omega
  exact ⟨h0,h.base.top hn h0⟩
theorem BfsJ.push {N:Net} {v:Nat} {out:List Int} {done q:List Nat} {w i:Nat} (hs:Sym N.ends) (h:BfsJ N v out done w q i) (hi:i < (gl N.ends w).length) (h0:gi out (nd N w i) < 0) :
 BfsJ N v (out.set (nd N w i) (gi out w + 1)) done w (q ++ [nd N w i]) (i + 1):=by
 obtain ⟨hw,hw0⟩:=h.base.at0;obtain ⟨hx,hb,hnb,-⟩:=d9 hs hw hi
 generalize hxe:nd N w i = x at *
 have hxl:x < out.length:=by rw [h.base.len]; exact hx
 have hxm:x ∉ done ++ w :: q:=fun hm=>by have:=(h.base.mem x hx).2 hm; omega
 have hg:∀ u,gi (out.set x (gi out w + 1)) u = if u = x then gi out w + 1 else gi out u:=fun u=>Lx hxl
 have hgo:∀ u,u ∈ done ++ w :: q → gi (out.set x (gi out w + 1)) u = gi out u:=fun u hu=>by rw [hg,if_neg fun e=>hxm (by rw [← e]; exact hu)]
 have hgp:∀ u,0 ≤ gi out u → gi (out.set x (gi out w + 1)) u = gi out u:=fun u hu=>by rw [hg,if_neg fun e=>by rw [e] at hu; omega]
 have hwg:=hgo w (by simp);have happ:done ++ w :: (q ++ [x]) = (done ++ w :: q) ++ [x]:=by simp
 refine ⟨⟨by rw [List.length_set]; exact h.base.len,?_,fun u hu=>?_,fun u hu=>?_,fun u hu=>?_,fun u hu=>?_,fun u hu=>?_,?_,?_,?_,fun u hu j hj=>?_,fun u hu=>?_,fun g t e=>?_⟩,fun j hj hjl=>?_⟩
 ·rw [hgp v (by rw [h.base.root]; exact Int.le_refl 0)]; exact h.base.root
 ·rw [hg];split
  ·intro e; omega
  ·exact h.base.zero u hu
 ·rw [hg];split
  ·omega
  ·exact h.base.low u hu
 ·rw [hg];split
  ·rename_i e
   subst e;intro _;exact ⟨_,hb,by rw [hnb,hwg]; omega⟩
  ·intro h1;obtain ⟨j,hj,h2⟩:=h.base.back u hu h1;exact ⟨j,hj,by rw [hgp _ (by omega)]; exact h2⟩
 ·rw [happ,List.mem_append,List.mem_singleton,hg];split
  ·rename_i e; subst e; exact ⟨fun _=>.inr rfl,fun _=>by omega⟩
  ·rename_i e; rw [h.base.mem u hu]; exact ⟨.inl,fun hh=>hh.resolve_right e⟩
 ·rw [happ] at hu
  rcases List.mem_append.1 hu with hu | hu
  ·exact h.base.rng u hu
  ·rw [List.mem_singleton.1 hu]; exact hx
 ·rw [happ];refine List.nodup_append.2 ⟨h.base.nodup,by simp,fun a ha b hb e=>?_⟩;rw [List.mem_singleton.1 hb] at e;exact hxm (by rw [← e]; exact ha)
 ·rw [happ];refine List.pairwise_append.2 ⟨h.base.sorted.imp_of_mem fun {a b} ha hb hab=>by rw [hgo a ha,hgo b hb]; exact hab,by simp,fun a ha b hb=>?_⟩;rw [List.mem_singleton.1 hb,hgo a ha,hg x,if_pos rfl];have hal:=h.base.rng a ha;exact h.base.top hal ((h.base.mem a hal).2 ha)
 ·intro h' t e u hu;cases e;rw [hwg];simp only [List.mem_cons,List.mem_append,List.not_mem_nil,or_false] at hu
  rcases hu with rfl | hu | rfl
  ·rw [hwg]; omega
  ·rw [hgo u (by simp [hu])]; exact h.base.near w q rfl u (by simp [hu])
  ·rw [hg u,if_pos rfl]; exact Int.le_refl _
 ·have h1:=h.base.step u hu j hj;rw [hgp _ h1.1,hgo u (by simp [hu])];exact h1
 ·have h1:=h.base.hd w q rfl;rw [hg];split
  ·omega
  ·exact h.base.bnd u hu
 ·cases e;rw [hwg]; exact h.base.hd w q rfl
 ·rcases Nat.lt_or_ge j i with hj' | hj'
  ·have h1:=h.part j hj' hjl;rw [hgp _ h1.1,hwg];exact h1
  ·obtain rfl:j = i:=by omega
   rw [hxe,hg x,if_pos rfl,hwg];omega
theorem BfsJ.done {N:Net} {v:Nat} {out:List Int} {done q:List Nat} {w:Nat} (h:BfsJ N v out done w q (gl N.ends w).length):BfsI N v out (done ++ [w]) q:=by
 have happ:done ++ w :: q = (done ++ [w]) ++ q:=by simp
 have hb:=h.base;refine ⟨hb.len,hb.root,hb.zero,hb.low,hb.back,?_,?_,?_,?_,fun g t e x hx=>?_,fun u hu j hj=>?_,fun u hu=>?_,fun g t e=>?_⟩
 ·rw [← happ]; exact hb.mem
 ·rw [← happ]; exact hb.rng
 ·rw [← happ]; exact hb.nodup
 ·rw [← happ]; exact hb.sorted
 ·subst e;have h1:=hb.near w _ rfl x (by simp [hx]);have h2:=(List.pairwise_append.1 hb.sorted).2.1;rw [List.pairwise_cons] at h2;have:=h2.1 g (by simp);omega
 ·rcases List.mem_append.1 hu with hu | hu
  ·exact hb.step u hu j hj
  ·rw [List.mem_singleton.1 hu] at hj ⊢;exact h.part j hj hj
 ·have:=hb.bnd u hu;rw [List.length_append,List.length_singleton]; omega
 ·subst e;have:=hb.bnd g (hb.rng g (by simp));rw [List.length_append,List.length_singleton]; omega
theorem BfsI.dist {N:Net} {v:Nat} {out:List Int} {done:List Nat} (h:BfsI N v out done []):IsDist N v out :=
 ⟨h.len,h.root,h.zero,h.low,h.back,fun w hw h0 j hj=>h.step w (by simpa using (h.mem w hw).1 h0) j hj⟩
theorem BfsI.start {N:Net} {v:Nat} (hv:v < N.ends.length):BfsI N v ((List.replicate N.ends.length (-1)).set v 0) [] [v]:=by
 have hg:∀ u,u < N.ends.length → gi ((List.replicate N.ends.length (-1)).set v 0) u = if u = v then 0 else -1:=fun u hu=>by
  rw [Lx (by simpa using hv)];split
  ·rfl
  ·simp [gi,hu]
 refine ⟨by simp,by rw [hg v hv,if_pos rfl],fun w hw h=>?_,fun w hw=>?_,fun w hw h=>?_,fun w hw=>?_,fun w hw=>?_,by simp,by simp,fun h t e x hx=>?_,fun w hw=>by simp at hw,fun w hw=>?_,fun h t e=>?_⟩
 ·rw [hg w hw] at h; split at h
  ·assumption
  ·omega
 ·rw [hg w hw]; split <;> omega
 ·rw [hg w hw] at h; split at h <;> omega
 ·rw [hg w hw];split
  ·rename_i e; simp [e]
  ·rename_i e; simp [e]
 ·simp at hw; rw [hw]; exact hv
 ·simp at e hx; rw [hx,e.1]; omega
 ·rw [hg w hw]; split <;> simp
 ·cases e; rw [hg v hv,if_pos rfl]; simp
end
section
def Dv (b:Nat) (P:Nat → Bool):Int:=match (List.range b).find? P with
 | some j=>(j:Int)
 | none=>-1
theorem Qs {b:Nat} {P:Nat → Bool} {m:Nat} (hm:m < b) (h:P m = true) (hl:∀ j,j < m → P j = false):Dv b P = m:=by
 have:(List.range b).find? P = some m:=List.find?_range_eq_some.2 ⟨h,List.mem_range.2 hm,fun j hj=>by simp [hl j hj]⟩;unfold Dv; rw [this]
theorem Qt {b:Nat} {P:Nat → Bool} (h:∀ j,j < b → P j = false):Dv b P = -1:=by
 have:(List.range b).find? P = none:=List.find?_eq_none.2 fun j hj=>by simp [h j (List.mem_range.1 hj)]
 unfold Dv; rw [this]
theorem Cw (b:Nat) (P:Nat → Bool):(Dv b P = -1 ∧ ∀ j,j < b → P j = false) ∨ ∃ m:Nat,Dv b P = m ∧ m < b ∧ P m = true ∧ ∀ j,j < m → P j = false:=by
 cases h:(List.range b).find? P with
 | none=>exact .inl ⟨by unfold Dv; rw [h],fun j hj=>by have:=List.find?_eq_none.1 h j (List.mem_range.2 hj); simpa using this⟩
 | some m =>
  obtain ⟨h1,h2,h3⟩:=List.find?_range_eq_some.1 h;exact .inr ⟨m,by unfold Dv; rw [h],List.mem_range.1 h2,h1,fun j hj=>by simpa using h3 j hj⟩
def tab (n:Nat) (f:Nat → Int):List Int:=(List.range n).map f
theorem We (n:Nat) (f:Nat → Int):(tab n f).length = n:=by simp [tab]
theorem Z5 {n:Nat} {f:Nat → Int} {w:Nat} (h:w < n):gi (tab n f) w = f w:=by simp [tab,gi,h]
def wdn (N:Net) (root:Nat):Nat → List Int
 | 0=>(List.replicate N.ends.length (-1)).set root 0
 | r + 1=>tab N.ends.length fun w=>if 0 ≤ gi (wdn N root r) w then gi (wdn N root r) w else if (List.range (gl N.ends w).length).any (fun j=>gi (wdn N root r) (nd N w j) == (r:Int)) then (r:Int) + 1 else -1
def prt (N:Net) (d:List Int) (w:Nat):Int:=if gi d w ≤ 0 then -1 else Dv (gl N.ends w).length fun j=>gi d (nd N w j) == gi d w - 1
def jcd (N:Net) (d:List Int):List Int:=tab N.ends.length (prt N d)
section
variable {N:Net} {root:Nat}
structure WOk (N:Net) (root r:Nat) (d:List Int):Prop where
 len:d.length = N.ends.length
 rt:gi d root = 0
 zero:∀ w,w < N.ends.length → gi d w = 0 → w = root
 low:∀ w,w < N.ends.length → -1 ≤ gi d w
 bnd:∀ w,w < N.ends.length → gi d w ≤ r
 back:∀ w,w < N.ends.length → 0 < gi d w → ∃ j,j < (gl N.ends w).length ∧ gi d (nd N w j) = gi d w - 1
 step:∀ w,w < N.ends.length → 0 ≤ gi d w → gi d w < r → ∀ j,j < (gl N.ends w).length → 0 ≤ gi d (nd N w j) ∧ gi d (nd N w j) ≤ gi d w + 1
theorem Be {r w:Nat} (hw:w < N.ends.length):gi (wdn N root (r + 1)) w = if 0 ≤ gi (wdn N root r) w then gi (wdn N root r) w else if (List.range (gl N.ends w).length).any (fun j=>gi (wdn N root r) (nd N w j) == (r:Int)) then (r:Int) + 1 else -1:=by
 rw [wdn,Z5 hw]
theorem o0 {r w:Nat} (hw:w < N.ends.length) (h:0 ≤ gi (wdn N root r) w):gi (wdn N root (r + 1)) w = gi (wdn N root r) w:=by rw [Be hw,if_pos h]
theorem M1 {r w j:Nat} (hw:w < N.ends.length) (h:gi (wdn N root r) w < 0) (hj:j < (gl N.ends w).length) (he:gi (wdn N root r) (nd N w j) = r):gi (wdn N root (r + 1)) w = (r:Int) + 1:=by
 rw [Be hw,if_neg (by omega),if_pos];rw [List.any_eq_true];exact ⟨j,List.mem_range.2 hj,by simp [he]⟩
theorem M0 {r w:Nat} (hw:w < N.ends.length) (h:gi (wdn N root r) w < 0) (he:∀ j,j < (gl N.ends w).length → gi (wdn N root r) (nd N w j) ≠ r):gi (wdn N root (r + 1)) w = -1:=by
 rw [Be hw,if_neg (by omega),if_neg];rw [List.any_eq_true];rintro ⟨j,hj,h2⟩;exact he j (List.mem_range.1 hj) (by simpa using h2)
theorem kj (hs:Sym N.ends) (hr:root < N.ends.length):∀ r,WOk N root r (wdn N root r)
 | 0=>by
  have h:=BfsI.start hr
  exact ⟨h.len,h.root,h.zero,h.low,fun w hw=>by
   have h1:=h.bnd w hw;have h2:=h.hd root [] rfl
   by_cases hc:0 ≤ gi ((List.replicate N.ends.length (-1)).set root 0) w
   ·have:=(h.mem w hw).1 hc;simp at this;rw [this]; exact h2
   ·show gi ((List.replicate N.ends.length (-1)).set root 0) w ≤ _; omega,h.back,fun w hw h1 h2=>by simp at h2; omega⟩
 | r + 1=>by
  have ih:=kj hs hr r
  have key:∀ w,w < N.ends.length → (0 ≤ gi (wdn N root r) w ∧ gi (wdn N root (r + 1)) w = gi (wdn N root r) w) ∨ (gi (wdn N root r) w < 0 ∧ gi (wdn N root (r + 1)) w = -1 ∧ ∀ j,j < (gl N.ends w).length → gi (wdn N root r) (nd N w j) ≠ r) ∨
   (gi (wdn N root r) w < 0 ∧ gi (wdn N root (r + 1)) w = (r:Int) + 1 ∧ ∃ j,j < (gl N.ends w).length ∧ gi (wdn N root r) (nd N w j) = r):=fun w hw=>by
   by_cases h0:0 ≤ gi (wdn N root r) w
   ·exact .inl ⟨h0,o0 hw h0⟩
   ·by_cases h1:∃ j,j < (gl N.ends w).length ∧ gi (wdn N root r) (nd N w j) = r
    ·obtain ⟨j,hj,he⟩:=h1;exact .inr (.inr ⟨by omega,M1 hw (by omega) hj he,j,hj,he⟩)
    ·have h2:∀ j,j < (gl N.ends w).length → gi (wdn N root r) (nd N w j) ≠ r:=fun j hj he=>h1 ⟨j,hj,he⟩;exact .inr (.inl ⟨by omega,M0 hw (by omega) h2,h2⟩)
  refine ⟨by rw [wdn,We],?_,fun w hw h=>?_,fun w hw=>?_,fun w hw=>?_,fun w hw h=>?_,fun w hw h h2 j hj=>?_⟩
  ·rw [o0 hr (by rw [ih.rt]; exact Int.le_refl 0)]; exact ih.rt
  ·rcases key w hw with ⟨h1,h2⟩ | ⟨h1,h2,-⟩ | ⟨h1,h2,-⟩
   ·exact ih.zero w hw (by omega)
   ·omega
   ·omega
  ·have:=ih.low w hw
   rcases key w hw with ⟨h1,h2⟩ | ⟨h1,h2,-⟩ | ⟨h1,h2,-⟩ <;> omega
  ·have:=ih.bnd w hw
   rcases key w hw with ⟨h1,h2⟩ | ⟨h1,h2,-⟩ | ⟨h1,h2,-⟩ <;> omega
  ·rcases key w hw with ⟨h1,h2⟩ | ⟨h1,h2,-⟩ | ⟨h1,h2,j,hj,h3⟩
   ·rw [h2] at h ⊢;obtain ⟨j,hj,h3⟩:=ih.back w hw h;exact ⟨j,hj,by rw [o0 (d9 hs hw hj).1 (by omega)]; exact h3⟩
   ·omega
   ·exact ⟨j,hj,by rw [o0 (d9 hs hw hj).1 (by omega),h2]; omega⟩
  ·obtain ⟨hx,hbk,hnb,-⟩:=d9 hs hw hj
   rcases key w hw with ⟨h3,h4⟩ | ⟨h3,h4,-⟩ | ⟨h3,h4,-⟩
   ·by_cases hlt:gi (wdn N root r) w < r
    ·have:=ih.step w hw h3 hlt j hj;rw [o0 hx this.1,h4]; exact this
    ·have hwr:gi (wdn N root r) w = r:=by have:=ih.bnd w hw; omega
     by_cases hx0:0 ≤ gi (wdn N root r) (nd N w j)
     ·have:=ih.bnd _ hx;rw [o0 hx hx0,h4]; omega
     ·rw [M1 hx (by omega) hbk (by rw [hnb]; exact hwr),h4]; omega
   ·omega
   ·push_cast at h2; omega
theorem WOk.dist {r:Nat} {d:List Int} (h:WOk N root r d) (hn:∀ w,w < N.ends.length → gi d w ≠ r):IsDist N root d :=
 ⟨h.len,h.rt,h.zero,h.low,h.back,fun w hw h0 j hj=>h.step w hw h0 (by have:=h.bnd w hw; have:=hn w hw; omega) j hj⟩
theorem WOk.chain {r:Nat} {d:List Int} (hs:Sym N.ends) (h:WOk N root r d):∀ (k:Nat) w,w < N.ends.length → gi d w = k → ∃ l:List Nat,l.length = k + 1 ∧ l.Nodup ∧ ∀ x ∈ l,x < N.ends.length ∧ gi d x ≤ k
 | 0,w,hw,hk=>⟨[w],rfl,by simp,fun x hx=>by simp at hx; rw [hx]; exact ⟨hw,by omega⟩⟩
 | k + 1,w,hw,hk=>by
  obtain ⟨j,hj,h2⟩:=h.back w hw (by omega);obtain ⟨l,h3,h4,h5⟩:=WOk.chain hs h k _ (d9 hs hw hj).1 (by omega);refine ⟨w :: l,by simp [h3],List.nodup_cons.2 ⟨fun hm=>by have:=(h5 w hm).2; omega,h4⟩,fun x hx=>?_⟩
  rcases List.mem_cons.1 hx with rfl | hx
  ·exact ⟨hw,by omega⟩
  ·have:=h5 x hx; exact ⟨this.1,by omega⟩
theorem WOk.lt {r:Nat} {d:List Int} (hs:Sym N.ends) (h:WOk N root r d) {w:Nat} (hw:w < N.ends.length):gi d w < N.ends.length:=by
 by_cases h0:0 ≤ gi d w
 ·obtain ⟨k,hk⟩:=Int.eq_ofNat_of_zero_le h0;obtain ⟨l,h1,h2,h3⟩:=h.chain hs k w hw hk;have:=h2.length_le_of_subset (show l ⊆ List.range N.ends.length from fun x hx=>List.mem_range.2 (h3 x hx).1);simp at this;omega
 ·omega
theorem Pz {r:Nat} {d:List Int} (h:WOk N root r d) {w:Nat} (hw:w < N.ends.length):(gi d w ≤ 0 ∧ prt N d w = -1) ∨ (0 < gi d w ∧ ∃ m:Nat,prt N d w = m ∧ m < (gl N.ends w).length ∧ gi d (nd N w m) = gi d w - 1 ∧ ∀ j,j < m → gi d (nd N w j) ≠ gi d w - 1):=by
 unfold prt
 by_cases h0:gi d w ≤ 0
 ·exact .inl ⟨h0,by rw [if_pos h0]⟩
 ·rw [if_neg h0]
  rcases Cw (gl N.ends w).length (fun j=>gi d (nd N w j) == gi d w - 1) with ⟨-,h2⟩ | ⟨m,h1,h2,h3,h4⟩
  ·obtain ⟨j,hj,he⟩:=h.back w hw (by omega);have:=h2 j hj;simp [he] at this
  ·exact .inr ⟨by omega,m,h1,h2,by simpa using h3,fun j hj=>by simpa using h4 j hj⟩
theorem Zl (hs:Sym N.ends) (hr:root < N.ends.length) {r w j:Nat} (hw:w < N.ends.length) (h0:gi (wdn N root r) w < 0) (hj:j < (gl N.ends w).length):prt N (wdn N root r) (nd N w j) ≠ bk N w j:=by
 obtain ⟨hx,hb,hnb,-⟩:=d9 hs hw hj;intro e
 rcases Pz (kj hs hr r) hx with ⟨-,h2⟩ | ⟨h1,m,h2,-,h4,-⟩
 ·omega
 ·have:m = bk N w j:=by omega
  subst this;rw [hnb] at h4;omega
def snt (p:Int):Nat → Int
 | 0=>0
 | k + 1=>snt p k + if (k:Int) ≠ p then 1 else 0
theorem F0 (p:Int):∀ k:Nat,0 ≤ snt p k ∧ snt p k ≤ k
 | 0=>by simp [snt]
 | k + 1=>by have:=F0 p k; rw [snt]; split <;> push_cast <;> omega
theorem Sj (p:Int) {k i:Nat} (hi:i < k) (hp:(i:Int) ≠ p):1 ≤ snt p k:=by
 induction k with
 | zero=>omega
 | succ k ih =>
  have:=F0 p k;rw [snt]
  by_cases h:i = k
  ·subst h; rw [if_pos hp]; omega
  ·have:=ih (by omega); split <;> omega
def tm (N:Net) (root r:Nat):Int:=nw N.ends.length fun w=>if gi (wdn N root r) w = r then snt (prt N (wdn N root r) w) (gl N.ends w).length else 0
def Qg (N:Net) (root:Nat):Nat → Int
 | 0=>0
 | r + 1=>Qg N root r + tm N root r
theorem Ej (hs:Sym N.ends) (hr:root < N.ends.length) {r:Nat} (h:tm N root r = 0):wdn N root (r + 1) = wdn N root r:=by
 refine lj (by rw [(kj hs hr _).len,(kj hs hr _).len]) fun w hw=>?_;rw [(kj hs hr _).len] at hw
 by_cases h0:0 ≤ gi (wdn N root r) w
 ·exact o0 hw h0
 ·have hl:=(kj hs hr r).low w hw;rw [M0 hw (by omega)]
  ·omega
  ·intro j hj he;obtain ⟨hx,hb,-⟩:=d9 hs hw hj;have h1:=Sj (prt N (wdn N root r) (nd N w j)) hb (Zl hs hr hw (by omega) hj).symm;have h2:=Kr N.ends.length (f:=fun w=>if gi (wdn N root r) w = r then snt (prt N (wdn N root r) w) (gl N.ends w).length else 0) (fun i _=>by split; exact (F0 _ _).1; exact Int.le_refl 0) hx;rw [if_pos he] at h2;unfold tm at h;omega
theorem B9 {r:Nat} (h:∀ w,w < N.ends.length → gi (wdn N root r) w ≠ r):tm N root r = 0:=Kq _ fun i hi=>by rw [if_neg (h i hi)]
theorem Lp (hs:Sym N.ends) (hr:root < N.ends.length) {r:Nat} (h:wdn N root (r + 1) = wdn N root r):wdn N root r = fo N root:=by
 refine (((kj hs hr (r + 1)).dist fun w hw e=>?_).eq hs ▸ h.symm);have:=(kj hs hr r).bnd w hw;rw [h] at e;omega
end
end
section
section
variable {N:Net} {root:Nat}
theorem Bq (hs:Sym N.ends) (hr:root < N.ends.length) {r:Nat} (h:tm N root r = 0):∀ k,wdn N root (r + k) = wdn N root r ∧ tm N root (r + k) = 0
 | 0=>⟨rfl,h⟩
 | k + 1=>by
  obtain ⟨h1,h2⟩:=Bq hs hr h k;have h3:wdn N root (r + (k + 1)) = wdn N root r:=(Ej hs hr (r:=r + k) h2).trans h1;refine ⟨h3,B9 fun w hw e=>?_⟩;rw [h3] at e;have:=(kj hs hr r).bnd w hw
  push_cast at e; omega
theorem Ce (hs:Sym N.ends) (hr:root < N.ends.length) {r:Nat} (h:tm N root r = 0):∀ k,Qg N root (r + k) = Qg N root r
 | 0=>rfl
 | k + 1=>by
  show Qg N root (r + k) + tm N root (r + k) = _;rw [(Bq hs hr h k).2,Ce hs hr h k]; omega
def jdg (N:Net) (root:Nat):Int:=Qg N root N.ends.length
noncomputable def jdf (N:Net) (root:Nat):List Int:=jcd N (fo N root)
theorem Hu (hs:Sym N.ends) (hr:root < N.ends.length) {r:Nat} (h:tm N root r = 0) (hn:r ≤ N.ends.length):wdn N root r = fo N root ∧ jcd N (wdn N root r) = jdf N root ∧ Qg N root r = jdg N root:=by
 have h1:=Lp hs hr (Ej hs hr h);refine ⟨h1,by rw [h1]; rfl,?_⟩;have:=Ce hs hr h (N.ends.length - r);rw [Nat.add_sub_cancel' hn] at this;exact this.symm
theorem Js (hs:Sym N.ends) (hr:root < N.ends.length):WOk N root N.ends.length (fo N root):=by
 have h:tm N root N.ends.length = 0:=B9 fun w hw e=>by
  have:=(kj hs hr N.ends.length).lt hs hw;omega
 have:=kj hs hr N.ends.length;rw [(Hu hs hr h (Nat.le_refl _)).1] at this;exact this
theorem j9 (hs:Sym N.ends) (hr:root < N.ends.length):IsDist N root (fo N root) :=
 (Js hs hr).dist fun w hw e=>by have:=(Js hs hr).lt hs hw; omega
def qh (N:Net) (root:Nat):Bool:=(List.range N.ends.length).all fun w=>decide (0 ≤ gi (wdn N root N.ends.length) w)
theorem Qz (hs:Sym N.ends) (hr:root < N.ends.length):wdn N root N.ends.length = fo N root :=
 (Hu hs hr (B9 fun w hw e=>by have:=(kj hs hr N.ends.length).lt hs hw; omega) (Nat.le_refl _)).1
theorem ou (hs:Sym N.ends) (hr:root < N.ends.length):qh N root = true ↔ ∀ w,w < N.ends.length → 0 ≤ gi (fo N root) w:=by
 unfold qh;rw [Qz hs hr,List.all_eq_true];exact ⟨fun h w hw=>by simpa using h w (List.mem_range.2 hw),fun h w hw=>by simpa using h w (List.mem_range.1 hw)⟩
end
end
section
section
variable {N:Net}
def cnt (n:Nat) (p:Nat → Bool):Int:=nw n fun j=>if p j = true then 1 else 0
end
end
end Go.Proofs.YtfknckinfcicbaaGreat
