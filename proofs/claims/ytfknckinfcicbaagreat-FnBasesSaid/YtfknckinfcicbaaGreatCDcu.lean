/- The cursor as data; the contracts of its earlier walks as contracts on data. -/
import Derived.Test.YtfknckinfcicbaaGreatCDcv
import Derived.Test.YtfknckinfcicbaaGreatCJn19
import Derived.Test.YtfknckinfcicbaaGreatCJn17
set_option linter.unusedSimpArgs false
set_option linter.unusedVariables false
namespace Go.Proofs.YtfknckinfcicbaaGreat
open Go Go.RowKit
def bC (x:Int):List C:=[.p (.int .u8 x)]
def codeC (bs:List Int):C:=.sl false 5 1 (bs.map bC)
def dp (bs:List Int):Prop:=bs.length ≤ 1048576 ∧ ∀ x ∈ bs,0 ≤ x ∧ x ≤ 255
def curC (bs:List Int) (p:Nat) (s:Int):List C:=[.sl false 5 1 (bs.map bC),.p (.int .i64 p),.p (.int .u64 s)]
def CurO (bs:List Int) (A:Nat) (Q:List RV → Prop):Res → Prop:=fun r=>∃ p s rs,r = .own true (curC bs p s) :: rs ∧ p ≤ A ∧ Q rs
theorem CurO.ex {bs:List Int} {A:Nat} {Q:List RV → Prop} (h:∃ rs,Q rs):∃ r,CurO bs A Q r:=let ⟨rs,h⟩:=h; ⟨_,0,0,rs,rfl,Nat.zero_le _,h⟩
section
variable {w w':World} {bs:List Int} {p:Nat} {s:Int} {val0:Val} {S0:Nat → Prop}
theorem Mf {S:Nat → Prop} {cv:Value} {gc:Nat} (h:RO w S (codeC bs) cv) (hb:dp bs) (hg:¬ S gc):BytesR w gc cv bs.length:=by
 obtain ⟨A,cap,rfl,h2,h3,h4⟩:=h.shape;rw [List.length_map];refine ⟨A,cap,rfl,hb.1,fun hp=>?_⟩;obtain ⟨b,off,rfl,h5,h6,-,h7⟩:=h4 (by intro he; have:=congrArg List.length he; simp at this; rw [this] at hp; simp at hp);refine ⟨b,off,rfl,fun he=>hg (he ▸ h5),fun j hj=>⟨bs[j],(hb.2 _ (List.getElem_mem hj)).1,(hb.2 _ (List.getElem_mem hj)).2,?_⟩⟩;obtain ⟨u,h8,h9⟩:=h7 j 0 (.p (.int .u8 bs[j])) (qx (List.getElem?_eq_getElem hj) rfl);rw [show off + j * 1 + 0 = off + j by omega] at h8;rw [h8,fp h9]
theorem U1 (hm:MemOk w (dw 69 (curC bs p s) []) val0 S0) (hb:dp bs):∃ gc cv,val0 (1,0) [] = .pointer (some ⟨gc,0,none⟩) ∧ CurS w gc cv bs.length p s ∧ RO w S0 (codeC bs) cv ∧ ¬ S0 gc ∧ (∀ b,Do val0 69 (curC bs p s) b ↔ b = gc):=by
 have io1:dw 69 (curC bs p s) [] (1,0) = some ⟨some 69,curC bs p s⟩:=by unfold dw; rw [if_pos rfl]
 obtain ⟨gc,cur,h1,h2,h3,h4⟩:=hm.root _ _ _ io1;have n0:RO w S0 (codeC bs) (val0 (1,0) [(0,0)]):=hm.node _ _ [(0,0)] (codeC bs) io1 rfl;have n1:val0 (1,0) [(0,1)] = .int .i64 p:=hm.node _ _ [(0,1)] (.p (.int .i64 p)) io1 rfl;have n2:val0 (1,0) [(0,2)] = .int .u64 s:=hm.node _ _ [(0,2)] (.p (.int .u64 s)) io1 rfl;have hown:OwnB (dw 69 (curC bs p s) []) val0 gc (1,0) []:=.inl ⟨rfl,⟨_,_,io1⟩,h1⟩;have hS:¬ S0 gc:=fun hh=>(hm.sep gc hh).2 _ _ hown
 have hcur:cur = #[val0 (1,0) [(0,0)],.int .i64 p,.int .u64 s]:=by
  apply Array.ext_getElem?;intro i
  rcases (by omega:i = 0 ∨ i = 1 ∨ i = 2 ∨ 3 ≤ i) with rfl | rfl | rfl | hi
  ·rw [h4 0 (by simp [curC])]; rfl
  ·rw [h4 1 (by simp [curC]),n1]; rfl
  ·rw [h4 2 (by simp [curC]),n2]; rfl
  ·have:cur.size = 3:=h3;rw [Array.getElem?_eq_none (by omega),Array.getElem?_eq_none (by simpa using hi)]
 refine ⟨gc,_,h1,⟨by rw [hcur] at h2; exact h2,Mf n0 hb hS⟩,n0,hS,fun b=>⟨fun ⟨q,hq⟩=>?_,fun hbg=>hbg ▸ ⟨[],hown⟩⟩⟩
 rcases hq with ⟨rfl,-,k3⟩ | ⟨cn,t',k,rows,n,cap,k1,k2,k3⟩
 ·rw [h1] at k3; cases k3; rfl
 ·rw [io1] at k1;cases k1;exfalso
  match q with
  | []=>cases k2
  | (j + 1,i) :: z=>cases k2
  | (0,0) :: z =>
   cases z with
   | nil=>simp [look,curC,da] at k2
   | cons a z=>simp [look,curC,C.at] at k2
  | (0,1) :: z =>
   cases z with
   | nil=>simp [look,curC,da] at k2
   | cons a z=>simp [look,curC,C.at] at k2
  | (0,2) :: z =>
   cases z with
   | nil=>simp [look,curC,da] at k2
   | cons a z=>simp [look,curC,C.at] at k2
  | (0,i + 3) :: z=>simp [look,curC] at k2
theorem Oz {gc:Nat} {cv v:Value} {G:Nat → Prop} {p':Nat} {s':Int} {r:Res} {val1:Val} {p0:Value} {S0:Nat → Prop} (hp0:p0 = .pointer (some ⟨gc,0,none⟩)) (hg:w.grownBy w' (some gc)) (hG:∀ b,G b ↔ b = gc) (hgc:gc < w.heap.size) (hS0:¬ S0 gc) (hSl:∀ b,S0 b → b < w.heap.size) (hro:RO w S0 (codeC bs) cv)
 (hc:CurS w' gc cv bs.length p' s') (hm:MemOk w' (resCon r) val1 (fun _=>False)) (hnew:∀ b key q,OwnB (resCon r) val1 b key q → w.heap.size ≤ b) (hsv:SV { gr with con:=resCon r } w' val1 (fun _=>False) 0 (resAV r) v) :
 ∃ val S,Dl w w' G S0 69 (curC bs p' s') p0 r v val S:=by
 obtain ⟨nv,hnv⟩:∃ nv:Val,nv = fun key=>if key = (1,0) then (fun q=>match q with | []=>.pointer (some ⟨gc,0,none⟩) | [(0,0)]=>cv | [(0,1)]=>.int .i64 p' | [(0,2)]=>.int .u64 s' | _=>undef) else val1 key:=⟨_,rfl⟩
 have n1:nv (1,0) = fun q=>match q with | []=>.pointer (some ⟨gc,0,none⟩) | [(0,0)]=>cv | [(0,1)]=>.int .i64 p' | [(0,2)]=>.int .u64 s' | _=>undef:=by rw [hnv]; simp
 have n0:∀ key:bh,key ≠ (1,0) → nv key = val1 key:=fun key hk=>by rw [hnv]; simp only [if_neg hk]
 have c1:dw 69 (curC bs p' s') r (1,0) = some ⟨some 69,curC bs p' s'⟩:=by unfold dw; rw [if_pos rfl]
 have c0:∀ key:bh,key ≠ (1,0) → dw 69 (curC bs p' s') r key = resCon r key:=fun key hk=>by unfold dw; rw [if_neg hk]
 have hlk:∀ q c,look (curC bs p' s') q = some c → (q = [(0,0)] ∧ c = codeC bs) ∨ (q = [(0,1)] ∧ c = .p (.int .i64 p')) ∨ (q = [(0,2)] ∧ c = .p (.int .u64 s')):=fun q c hq=>by
  match q with
  | []=>cases hq
  | (j + 1,i) :: z=>cases hq
  | (0,0) :: z =>
   cases z with
   | nil=>simp [look,curC,da] at hq; exact .inl ⟨rfl,hq.symm⟩
   | cons a z=>simp [look,curC,C.at] at hq
  | (0,1) :: z =>
   cases z with
   | nil=>simp [look,curC,da] at hq; exact .inr (.inl ⟨rfl,hq.symm⟩)
   | cons a z=>simp [look,curC,C.at] at hq
  | (0,2) :: z =>
   cases z with
   | nil=>simp [look,curC,da] at hq; exact .inr (.inr ⟨rfl,hq.symm⟩)
   | cons a z=>simp [look,curC,C.at] at hq
  | (0,i + 3) :: z=>simp [look,curC] at hq
 have hro':RO w' S0 (codeC bs) cv:=hro.keep (fun _ h=>fun _=>h) fun b hb hl=>hg.block b hl (by intro he; cases he; exact hS0 hb)
 have own:∀ b key q,OwnB (dw 69 (curC bs p' s') r) nv b key q → (key = (1,0) ∧ q = [] ∧ b = gc) ∨ (key ≠ (1,0) ∧ OwnB (resCon r) val1 b key q):=fun b key q ho=>by
  by_cases hk:key = (1,0)
  ·subst hk
   rcases ho with ⟨k1,-,k3⟩ | ⟨cn,t',k,rows,n,cap,k1,k2,k3⟩
   ·subst k1;rw [n1] at k3;cases k3;exact .inl ⟨rfl,rfl,rfl⟩
   ·rw [c1] at k1;cases k1
    rcases hlk _ _ k2 with ⟨-,hh⟩ | ⟨-,hh⟩ | ⟨-,hh⟩ <;> simp [codeC] at hh
  ·exact .inr ⟨hk,ho.con (c0 key hk).symm (n0 key hk).symm⟩
 refine ⟨nv,S0,⟨hg.os,hg.tape,hg.output,hg.size,fun k hk hgk=>hg.block k hk (by intro he; cases he; exact hgk ((hG gc).2 rfl))⟩,⟨fun key cn q c h1 h2=>?_,fun key t xs h1=>?_,fun b key q key' q' h1 h2=>?_,fun b hb=>⟨Nat.lt_of_lt_of_le (hSl b hb) hg.size,fun key q ho=>?_⟩⟩,?_,fun b key q ho=>?_,fun b hb=>.inr hb,?_⟩
 ·by_cases hk:key = (1,0)
  ·subst hk;rw [c1] at h1;cases h1;rw [n1]
   rcases hlk _ _ h2 with ⟨rfl,rfl⟩ | ⟨rfl,rfl⟩ | ⟨rfl,rfl⟩
   ·exact hro'
   ·rfl
   ·rfl
  ·rw [c0 key hk] at h1;rw [n0 key hk];exact (hm.node _ _ q c h1 h2).keep (fun _ hb=>hb.elim) (fun _ _ _=>rfl) fun _ _ _ _ _ _ _ _ _ _=>rfl
 ·by_cases hk:key = (1,0)
  ·subst hk;rw [c1] at h1;cases h1;rw [n1]
   exact ⟨gc,_,rfl,hc.1,rfl,fun i hi=>by
    have hi:i < 3:=hi
    rcases (by omega:i = 0 ∨ i = 1 ∨ i = 2) with rfl | rfl | rfl <;> rfl⟩
  ·rw [c0 key hk] at h1;rw [n0 key hk];exact hm.root _ _ _ h1
 ·rcases own _ _ _ h1 with ⟨rfl,rfl,rfl⟩ | ⟨k1,g1⟩ <;> rcases own _ _ _ h2 with ⟨rfl,rfl,e2⟩ | ⟨k2,g2⟩
  ·exact ⟨rfl,rfl⟩
  ·have:=hnew _ _ _ g2; omega
  ·subst e2; have:=hnew _ _ _ g1; omega
  ·exact hm.inj _ _ _ _ _ g1 g2
 ·rcases own _ _ _ ho with ⟨rfl,rfl,rfl⟩ | ⟨k1,g1⟩
  ·exact hS0 hb
  ·have:=hnew _ _ _ g1; have:=hSl b hb; omega
 ·rw [n1,hp0]
 ·rcases own _ _ _ ho with ⟨rfl,rfl,rfl⟩ | ⟨k1,g1⟩
  ·exact .inr ((hG _).2 rfl)
  ·exact .inl (hnew _ _ _ g1)
 ·have m0:∀ i,nv (0,i) = val1 (0,i):=fun i=>n0 (0,i) (by simp)
  generalize hrr:resAV r = av at hsv ⊢
  have hav:(∃ tv:TV,av = tv.av) ∨ ∃ ts,av = .tup ts:=by
   rw [← hrr];unfold resAV;split
   ·exact .inl ⟨_,rfl⟩
   ·exact .inr ⟨_,rfl⟩
  have hW:∀ {con:Option Con} {va:aj → Value} {tv:TV} {u:Value},TVok w' (fun _=>False) con va tv u → TVok w' S0 con va tv u:=fun hh=>hh.keep (fun _ hb=>hb.elim) fun _ _ _=>rfl
  rcases hav with ⟨tv,rfl⟩ | ⟨ts,rfl⟩
  ·cases tv with
   | c y=>exact hW (tv:=.c y) (con:=none) (va:=fun _=>undef) hsv
   | agg ys=>exact hW (tv:=.agg ys) (con:=none) (va:=fun _=>undef) hsv
   | own ag n =>
    show TVok w' S0 (resCon r (0,0)) (nv (0,0)) (.own ag n) v;rw [m0]; exact hW hsv
  ·obtain ⟨vs,g1,g2,g3⟩:=hsv;refine ⟨vs,g1,g2,fun i tv hi=>?_⟩;obtain ⟨u,g4,g5⟩:=g3 i tv hi;exact ⟨u,g4,by rw [m0]; exact g5.imp id hW⟩
end
theorem sj (w:World) (u:Value):∃ val,MemOk w (resCon [.c (.p u)]) val (fun _=>False) ∧ (∀ b key q,OwnB (resCon [.c (.p u)]) val b key q → w.heap.size ≤ b) ∧ SV { gr with con:=resCon [.c (.p u)] } w val (fun _=>False) 0 (resAV [.c (.p u)]) u:=by
 have hno:∀ key,resCon [.c (.p u)] key = none:=fun key=>by unfold resCon; simp [RV.con]
 refine ⟨fun _ _=>undef,⟨fun key cn p c hc=>(by rw [hno] at hc; cases hc),fun key t xs hc=>(by rw [hno] at hc; cases hc),fun b key p key' p' ho=>?_,fun b hb=>hb.elim⟩,fun b key p ho=>?_,RO.p u⟩
 ·obtain ⟨x,hx⟩:=ho.some; rw [hno] at hx; cases hx
 ·obtain ⟨x,hx⟩:=ho.some; rw [hno] at hx; cases hx
theorem pr {P:Program} {f:FuncId} {bs:List Int} {p A:Nat} {s:Int} {ags:List Arg} {Q:List RV → Prop} (hb:dp bs)
 (h:∀ w (vs:Array Value) gc cv (T:Nat → Prop),vs.size = ags.length + 1 → vs[0]? = some (.pointer (some ⟨gc,0,none⟩)) → CurR w gc cv bs.length p → jc7 cv w.heap.size → ¬ T gc → (∀ (i:Nat) (x:Arg),ags[i]? = some x → ∃ u,vs[i + 1]? = some u ∧ dq w T x u) →
   Calls P f vs w fun e w'=>∃ r v val1,Q r ∧ e = .returned v ∧ CurR w' gc cv bs.length A ∧ w.grownBy w' (some gc) ∧ MemOk w' (resCon r) val1 (fun _=>False) ∧ (∀ b key q,OwnB (resCon r) val1 b key q → w.heap.size ≤ b) ∧ SV { gr with con:=resCon r } w' val1 (fun _=>False) 0 (resAV r) v) :
 j3 P f 69 (curC bs p s) ags (CurO bs A Q):=fun w vs val0 S0 T h1 h2 h3 hT h4=>by
 obtain ⟨gc,cv,k1,k2,k3,k4,k5⟩:=U1 h2 hb
 have hfar:jc7 cv w.heap.size:=fun ad n c e hn=>by
  subst e;obtain ⟨A',cap,g1,g2,g3,g4⟩:=k3.shape;cases g1;rw [List.length_map] at hn;obtain ⟨b,off,hbe,-,hbl,-⟩:=g4 (by intro he; have:=congrArg List.length he; simp at this; rw [this] at hn; simp at hn);cases hbe;exact hbl
 refine (h w vs gc cv T h1 (by rw [h3,k1]) ⟨p,s,Nat.le_refl _,k2⟩ hfar (fun hh=>(hT gc hh).2 ((k5 gc).2 rfl)) h4).mono ?_;rintro e w' ⟨r,v,val1,g1,rfl,⟨p',s',g2,g3⟩,g4,g5,g6,g7⟩;obtain ⟨val,S,hr⟩:=Oz k1 g4 k5 k2.1.lt k4 (fun b hb=>(h2.sep b hb).1) k3 g3 g5 g6 g7;exact ⟨r,curC bs p' s',v,val,S,rfl,⟨p',s',r,rfl,g2,g1⟩,rfl,hr⟩
theorem Vj {vs:Array Value} {u v:Value} (h1:vs.size = 1 + 1) (h2:vs[0]? = some u) (h3:vs[1]? = some v):vs = #[u,v]:=by
 apply Array.ext_getElem?;intro i
 rcases (by omega:i = 0 ∨ i = 1 ∨ 2 ≤ i) with rfl | rfl | hi
 ·rw [h2]; rfl
 ·rw [h3]; rfl
 ·rw [Array.getElem?_eq_none (by omega),Array.getElem?_eq_none (by simpa using hi)]
theorem ew (bs:List Int) (p:Nat) (s n:Int) (A:Nat) (hb:dp bs) (hp:p ≤ A) (hA:A ≤ 4611686018427387900):j3 Tryz.prog 62 69 (curC bs p s) [.c (.p (.int .i64 n))] (CurO bs (A + 2) fun rs=>∃ x,rs = [.c (.p (.int .i64 x))] ∧ n5 n x) :=
 pr hb fun w vs gc cv S0 h1 h2 h3 _ _ h5=>by
  obtain ⟨u,g1,g2⟩:=h5 0 _ rfl;obtain rfl:u = .int .i64 n:=fp g2;rw [Vj h1 h2 g1];refine (wu w gc cv _ A n (h3.mono hp) hA).mono ?_;rintro e w' ⟨x,rfl,k1,k2,k3⟩;obtain ⟨val,m1,m2,m3⟩:=sj w' (.int .i64 x);exact ⟨_,_,val,⟨x,rfl,k1⟩,rfl,k2,k3,m1,fun b key q ho=>Nat.le_trans k3.size (m2 b key q ho),m3⟩
theorem tq (bs:List Int) (p:Nat) (s n:Int) (A:Nat) (hb:dp bs) (hp:p ≤ A) (hA:A ≤ 4611686018427387900):j3 Tryz.prog 63 69 (curC bs p s) [.c (.p (.int .i64 n))] (CurO bs (A + 2) fun rs=>∃ b:Bool,rs = [.c (.p (.bool b))]) :=
 pr hb fun w vs gc cv S0 h1 h2 h3 _ _ h5=>by
  obtain ⟨u,g1,g2⟩:=h5 0 _ rfl;obtain rfl:u = .int .i64 n:=fp g2;rw [Vj h1 h2 g1];refine (Wv w gc cv _ A n (h3.mono hp) hA).mono ?_;rintro e w' ⟨x,rfl,k2,k3⟩;obtain ⟨val,m1,m2,m3⟩:=sj w' (.bool x);exact ⟨_,_,val,⟨x,rfl⟩,rfl,k2,k3,m1,fun b key q ho=>Nat.le_trans k3.size (m2 b key q ho),m3⟩
theorem xl (bs:List Int) (p:Nat) (s:Int) (o:Bool) (t:TypeId) (xs:List Int) (A:Nat) (hb:dp bs) (hp:p ≤ A) (hA:A ≤ 4611686018427387900) (hx:0 < xs.length) (hn:xs.length ≤ 1048576):j3 Tryz.prog 60 69 (curC bs p s) [.c (ints o t xs)] (CurO bs (A + 2) fun rs=>∃ x,rs = [.c (.p (.int .i64 x))] ∧ vl xs x) :=
 pr hb fun w vs gc cv S0 h1 h2 h3 _ h4 h5=>by
  obtain ⟨u,g1,g2⟩:=h5 0 _ rfl;rw [Vj h1 h2 g1];refine (Rf (S:=S0) w gc cv _ A u xs (h3.mono hp) hA (qd g2) (fun b hb he=>h4 (he ▸ hb)) hx hn).mono ?_;rintro e w' ⟨x,rfl,k1,k2,k3⟩;obtain ⟨val,m1,m2,m3⟩:=sj w' (.int .i64 x);exact ⟨_,_,val,⟨x,rfl,k1⟩,rfl,k2,k3,m1,fun b key q ho=>Nat.le_trans k3.size (m2 b key q ho),m3⟩
theorem B5 (bs:List Int) (p:Nat) (s:Int) (n A:Nat) (hb:dp bs) (hp:p ≤ A) (hn:n ≤ 1048576) (hA:A + 2 * n ≤ 4611686018427387900):j3 Tryz.prog 79 69 (curC bs p s) [.c (.p (.int .i64 n))] (CurO bs (A + 2 * n) fun rs=>∃ xs:List Int,rs = [.own false [.sl true 3 1 (xs.map iC)]] ∧ xs.Perm (cp n)) :=
 pr hb fun w vs gc cv S0 h1 h2 h3 _ _ h5=>by
  obtain ⟨u,g1,g2⟩:=h5 0 _ rfl;obtain rfl:u = .int .i64 n:=fp g2;rw [Vj h1 h2 g1];refine (S8 w gc cv _ A n (h3.mono hp) hn hA).mono ?_;rintro e w' ⟨g,xs,rfl,k0,k1,k2,k3⟩;obtain ⟨val,m1,m2,m3⟩:=Ir k0;exact ⟨_,_,val,⟨xs,rfl,k1⟩,rfl,k2,k3,m1,m2,m3⟩
theorem tn (n:Int):n5 n 0:=⟨by omega,by omega,.inr rfl⟩
theorem Zm (bs:List Int) (p:Nat) (s n:Int) (hb:dp bs) (hp:p ≤ 4611686018427387904) (hn1:2 ≤ n) (hn2:n ≤ 200):j3 Tryz.prog 62 69 (curC bs p s) [.c (.p (.int .i64 n))] (fun r=>∃ x s',r = [.own true (curC bs (p + 1) s'),.c (.p (.int .i64 x))] ∧ 0 ≤ x ∧ x < n ∧ (bs.length ≤ p → s' = lcg s 0 ∧ x = s' / 1099511627776 % 256 % n)):=fun w vs val0 S0 T h1 h2 h3 hT h4=>by
 obtain ⟨gc,cv,k1,k2,k3,k4,k5⟩:=U1 h2 hb;obtain ⟨u,g1,g2⟩:=h4 0 _ rfl;obtain rfl:u = .int .i64 n:=fp g2;rw [Vj h1 (by rw [h3,k1]) g1];refine (La w gc cv bs.length p s n k2 hp hn1 hn2).mono ?_;rintro e w' ⟨x,s',rfl,g1,g2,g3,g4,g5⟩;obtain ⟨val1,m1,m2,m3⟩:=sj w' (.int .i64 x);obtain ⟨val,S,hr⟩:=Oz k1 g4 k5 k2.1.lt k4 (fun b hb=>(h2.sep b hb).1) k3 g3 m1 (fun b key q ho=>Nat.le_trans g4.size (m2 b key q ho)) m3;exact ⟨[.c (.p (.int .i64 x))],curC bs (p + 1) s',_,val,S,rfl,⟨x,s',rfl,g1,g2,g5⟩,rfl,hr⟩
end Go.Proofs.YtfknckinfcicbaaGreat
