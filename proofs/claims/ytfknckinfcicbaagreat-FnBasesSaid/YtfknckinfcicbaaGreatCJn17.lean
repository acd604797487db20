/- Parts of the proof. -/
import Derived.Test.YtfknckinfcicbaaGreatCJn9
import Derived.Deep.DeepCutAuto
import Derived.Laws.BitsAllLaws
import Derived.Test.YtfknckinfcicbaaGreatCJn7
set_option linter.unusedSimpArgs false
set_option linter.unusedVariables false
namespace Go.Proofs.YtfknckinfcicbaaGreat
section
open Go.RowKit
def BytesR (w:World) (gc:Nat) (cv:Value) (L:Nat):Prop :=
 ∃ A c,cv = .slice A L c ∧ L ≤ 1048576 ∧ (0 < L → ∃ b off,A = some ⟨b,off,none⟩ ∧ b ≠ gc ∧ ∀ j,j < L → ∃ z:Int,0 ≤ z ∧ z ≤ 255 ∧ w.cell? ⟨b,off + j,none⟩ = some (.int .u8 z))
def CurS (w:World) (gc:Nat) (cv:Value) (L:Nat) (p:Nat) (s:Int):Prop :=
 Blk w gc 69 #[cv,.int .i64 p,.int .u64 s] ∧ BytesR w gc cv L
theorem BytesR.grown {w w':World} {gc L:Nat} {cv:Value} (h:BytesR w gc cv L) (hg:w.grownBy w' (some gc)):BytesR w' gc cv L:=by
 obtain ⟨A,c,rfl,hL,hx⟩:=h;refine ⟨A,c,rfl,hL,fun hp=>?_⟩;obtain ⟨b,off,rfl,hne,hc⟩:=hx hp;refine ⟨b,off,rfl,hne,fun j hj=>?_⟩;obtain ⟨z,h1,h2,h3⟩:=hc j hj;refine ⟨z,h1,h2,?_⟩;rw [World.cell?_of_block (w:=w) (hg.block b (a8 h3) (by simpa using hne))];exact h3
def lcg (s b:Int):Int:=(s * 6364136223846793005 + b + 1442695040888963407) % 18446744073709551616
theorem E3 (s b:Int):0 ≤ lcg s b ∧ lcg s b ≤ 18446744073709551615:=by unfold lcg; omega
theorem Yf (n:Int):IntKind.u64.wrap n = n % 18446744073709551616:=by simp [IntKind.wrap,IntKind.bits,IntKind.signed]
theorem T6 (s b:Int):IntKind.u64.wrap (IntKind.u64.wrap (IntKind.u64.wrap (s * 6364136223846793005) + b) + 1442695040888963407) = lcg s b:=by
 simp only [Yf,lcg]; omega
theorem Ql (s:Int):IntKind.u64.wrap (IntKind.u64.wrap (IntKind.u64.wrap (s * 6364136223846793005)) + 1442695040888963407) = lcg s 0:=by
 simp only [Yf,lcg]; omega
theorem X4 (x:Int) (h0:0 ≤ x) (h1:x < 18446744073709551616):bits .and .u64 x 255 = x % 256:=by
 rw [u64_and x 255 h0 h1 (by omega) (by omega)];have:=Nat.and_two_pow_sub_one_eq_mod x.toNat 8;simp only [show (255:Int).toNat = 2 ^ 8 - 1 by rfl,this];omega
def jc2 (w:World) (gc:Nat) (cv:Value) (L p:Nat) (s:Int) (e:Ending) (w':World):Prop :=
 ∃ x s':Int,e = .returned (.int .i64 x) ∧ 0 ≤ x ∧ x ≤ 255 ∧ 0 ≤ s' ∧ s' ≤ 18446744073709551615 ∧ CurS w' gc cv L (p + 1) s' ∧ w.grownBy w' (some gc) ∧ (L ≤ p → s' = lcg s 0 ∧ x = s' / 1099511627776 % 256)
theorem O0 {w:World} {gc:Nat} {cv:Value} {p:Nat} {s s':Int} (n:Nat) (hk:Blk w gc 69 #[cv,.int .i64 p,.int .u64 s]) :
 Blk (((w.drewN n).setCell ⟨gc,1,none⟩ (.int .i64 ((p:Int) + 1))).setCell ⟨gc,2,none⟩ (.int .u64 s')) gc 69 #[cv,.int .i64 ((p + 1:Nat):Int),.int .u64 s'] :=
 ((show Blk (w.drewN n) gc _ _ from hk).put 1 _).put 2 _
theorem Fn {w:World} {gc:Nat} {u u':Value} (n:Nat):w.grownBy (((w.drewN n).setCell ⟨gc,1,none⟩ u).setCell ⟨gc,2,none⟩ u') (some gc) :=
 E7 (E7 (j8 (World.grownBy.refl _ _) n) _ _) _ _
set_option maxRecDepth 100000 in
set_option maxHeartbeats 1000000 in
theorem Cb (w:World) (gc:Nat) (cv:Value) (L p:Nat) (s:Int) (h:CurS w gc cv L p s) (hp:p ≤ 4611686018427387904) :
 Calls Tryz.prog 110 #[.pointer (some ⟨gc,0,none⟩)] w (jc2 w gc cv L p s):=by
 obtain ⟨hk,hby⟩:=h
 have HBY:=Lib.hid hby
 obtain ⟨A,c,rfl,hL,hx⟩:=hby
 have k0:=hk.cell;have k1:=hk.free;have HK:=Lib.hid hk
 by_cases hlt:p < L
 ·obtain ⟨b,off,rfl,hne,hc⟩:=hx (by omega);obtain ⟨z,hz1,hz2,hz3⟩:=hc p hlt;have i1:(0:Int) ≤ (p:Int):=by omega
  have i2:(p:Int) < (L:Int):=by omega
  clear hc hx hk
  go_enter Tryz.func110,Tryz.ntmps110
  go_wp2
  go_quiet (fail)
  revert nq
  intro n1
  go_wp2
  go_quiet (fail)
  revert nq
  intro n2
  go_wp2
  rw [T6];have HKW:=Lib.hid (O0 (s':=lcg s z) (n1 + n2) HK.out);have HGW:=Lib.hid (Fn (w:=w) (gc:=gc) (u:=.int .i64 ((p:Int) + 1)) (u':=.int .u64 (lcg s z)) (n1 + n2))
  generalize ((w.drewN (n1 + n2)).setCell ⟨gc,1,none⟩ (.int .i64 ((p:Int) + 1))).setCell ⟨gc,2,none⟩ (.int .u64 (lcg s z)) = W at HKW HGW ⊢
  clear k0 k1 hz3;have k0:=HKW.out.cell;have hlr:=E3 s z
  generalize lcg s z = s' at *
  go_quiet (fail)
  go_wp2
  go_ret
  exact ⟨z,s',rfl,hz1,hz2,hlr.1,hlr.2,⟨HKW.out,HBY.out.grown (j8 HGW.out _)⟩,j8 HGW.out _,fun h=>absurd h (by omega)⟩
 ·clear hx hk
  go_enter Tryz.func110,Tryz.ntmps110
  go_wp2
  go_quiet (fail)
  revert nq
  intro n1
  go_wp2
  rw [Ql];have HKW:=Lib.hid (O0 (s':=lcg s 0) n1 HK.out);have HGW:=Lib.hid (Fn (w:=w) (gc:=gc) (u:=.int .i64 ((p:Int) + 1)) (u':=.int .u64 (lcg s 0)) n1)
  generalize ((w.drewN n1).setCell ⟨gc,1,none⟩ (.int .i64 ((p:Int) + 1))).setCell ⟨gc,2,none⟩ (.int .u64 (lcg s 0)) = W at HKW HGW ⊢
  clear k0 k1;have k0:=HKW.out.cell;obtain ⟨h1,h2⟩:=E3 s 0;obtain ⟨s',hs'⟩:∃ s',s' = lcg s 0:=⟨_,rfl⟩;rw [← hs'] at HKW k0 h1 h2 ⊢;have HS':=Lib.hid hs';clear hs'
  go_quiet (fail)
  go_wp2
  go_ret
  refine ⟨s' / 1099511627776 % 256,s',?_,by omega,by omega,h1,h2,⟨HKW.out,HBY.out.grown (j8 HGW.out _)⟩,j8 HGW.out _,fun _=>⟨HS'.out,rfl⟩⟩;have e1:bits BinOp.and IntKind.u64 (s' / 1099511627776) 255 = s' / 1099511627776 % 256:=X4 _ (by omega) (by omega);have e2:wrap64 (s' / 1099511627776 % 256) = s' / 1099511627776 % 256:=IntWalk.wrap64_in _ ⟨by omega,by omega⟩;rw [e1,e2];rfl
end
section
open Go.RowKit
def CurR (w:World) (gc:Nat) (cv:Value) (L A:Nat):Prop:=∃ (p:Nat) (s:Int),p ≤ A ∧ CurS w gc cv L p s
theorem CurR.mono {w:World} {gc L A A':Nat} {cv:Value} (h:CurR w gc cv L A) (hA:A ≤ A'):CurR w gc cv L A':=by
 obtain ⟨p,s,h1,h2⟩:=h; exact ⟨p,s,by omega,h2⟩
theorem CurS.keep {w w':World} {gc L p:Nat} {cv:Value} {s:Int} (h:CurS w gc cv L p s) (hb:Below w.heap.size w w'):CurS w' gc cv L p s :=
 ⟨h.1.below hb,by
  obtain ⟨A,c,rfl,hL,hx⟩:=h.2;refine ⟨A,c,rfl,hL,fun hp=>?_⟩;obtain ⟨b,off,rfl,hne,hc⟩:=hx hp;refine ⟨b,off,rfl,hne,fun j hj=>?_⟩;obtain ⟨z,h1,h2,h3⟩:=hc j hj
  exact ⟨z,h1,h2,(hb.cell (p:=⟨b,off + j,none⟩) (a8 h3)).trans h3⟩⟩
theorem CurR.keep {w w':World} {gc L A:Nat} {cv:Value} (h:CurR w gc cv L A) (hb:Below w.heap.size w w'):CurR w' gc cv L A:=by
 obtain ⟨p,s,h1,h2⟩:=h; exact ⟨p,s,h1,h2.keep hb⟩
theorem CurR.lt {w:World} {gc L A:Nat} {cv:Value} (h:CurR w gc cv L A):gc < w.heap.size:=by
 obtain ⟨p,s,h1,h2⟩:=h; exact h2.1.lt
theorem CurR.bytes {w:World} {gc L A:Nat} {cv:Value} (h:CurR w gc cv L A):BytesR w gc cv L:=by
 obtain ⟨p,s,_,h⟩:=h; exact h.2
theorem CurR.set {w:World} {gc L A:Nat} {cv:Value} (h:CurR w gc cv L A) {q:Addr} {u:Value} (hq:gc ≠ q.block) (hb:BytesR (w.setCell q u) gc cv L):CurR (w.setCell q u) gc cv L A:=by
 obtain ⟨p,s,h1,h2⟩:=h;exact ⟨p,s,h1,h2.1.far hq u,hb⟩
theorem xb {a w:World} {row:Option Nat} (h:a.grownBy w row) {p:Addr} (hp:a.heap.size ≤ p.block) (u:Value):a.grownBy (w.setCell p u) row :=
 ⟨h.os,h.tape,h.output,by simpa [World.setCell] using h.size,fun k hk hne=>(Below.heap_setCell w p u k (by omega)).trans (h.block k hk hne)⟩
def Yu (w:World) (gc:Nat) (cv:Value) (L A:Nat) (P:Int → Prop) (e:Ending) (w':World):Prop :=
 ∃ x:Int,e = .returned (.int .i64 x) ∧ P x ∧ CurR w' gc cv L A ∧ w.grownBy w' (some gc)
def n5 (n x:Int):Prop:=0 ≤ x ∧ x ≤ 65535 ∧ (x < n ∨ x = 0)
theorem Ot {x n:Int} (hx:0 ≤ x) (hn:0 < n):x % n ≤ x:=by
 have h:=Int.mul_ediv_add_emod x n;have h2:0 ≤ n * (x / n):=Int.mul_nonneg (by omega) (Int.ediv_nonneg hx (by omega));omega
set_option maxRecDepth 100000 in
set_option maxHeartbeats 1000000 in
theorem La (w:World) (gc:Nat) (cv:Value) (L p:Nat) (s n:Int) (h:CurS w gc cv L p s) (hp:p ≤ 4611686018427387904) (h1:2 ≤ n) (h2:n ≤ 200) :
 Calls Tryz.prog 62 #[.pointer (some ⟨gc,0,none⟩),.int .i64 n] w (fun e w' =>
  ∃ x s':Int,e = .returned (.int .i64 x) ∧ 0 ≤ x ∧ x < n ∧ CurS w' gc cv L (p + 1) s' ∧ w.grownBy w' (some gc) ∧ (L ≤ p → s' = lcg s 0 ∧ x = s' / 1099511627776 % 256 % n)):=by
 have CN:=Lib.hid (Cb w gc cv L p s h hp);clear h
 go_enter Tryz.func62,Tryz.ntmps62
 go_wp2_with fail
 refine CN.out.mono ?_;rintro e w1 ⟨x,s',rfl,hx1,hx2,-,-,hc,hg,hdet⟩;have HC:=Lib.hid hc;have HG:=Lib.hid hg;have HD:=Lib.hid hdet;have hm1:0 ≤ x % n:=Int.emod_nonneg _ (by omega);have hm2:x % n < n:=Int.emod_lt_of_pos _ (by omega);clear hc hg hdet
 go_wp2_with fail
 go_ret
 exact ⟨x % n,s',rfl,hm1,hm2,HC.out,HG.out,fun h=>⟨(HD.out h).1,by rw [(HD.out h).2]⟩⟩
set_option maxRecDepth 100000 in
set_option maxHeartbeats 1000000 in
theorem wu (w:World) (gc:Nat) (cv:Value) (L A:Nat) (n:Int) (h:CurR w gc cv L A) (hp:A ≤ 4611686018427387900) :
 Calls Tryz.prog 62 #[.pointer (some ⟨gc,0,none⟩),.int .i64 n] w (Yu w gc cv L (A + 2) (n5 n)):=by
 obtain ⟨p,s,hpA,h⟩:=h
 by_cases h1:n ≤ 1
 ·have HC:=Lib.hid h;clear h
  go_enter Tryz.func62,Tryz.ntmps62
  go_wp2_with fail
  go_ret
  exact ⟨0,rfl,⟨by omega,by omega,.inr rfl⟩,⟨p,s,by omega,HC.out⟩,World.grownBy.refl _ _⟩
 ·have CN:=Lib.hid (Cb w gc cv L p s h (by omega));clear h
  by_cases h2:n ≤ 200
  ·go_enter Tryz.func62,Tryz.ntmps62
   go_wp2_with fail
   refine CN.out.mono ?_;rintro e w1 ⟨x,s',rfl,hx1,hx2,-,-,hc,hg,-⟩;have HC:=Lib.hid hc;have HG:=Lib.hid hg;have hm1:0 ≤ x % n:=Int.emod_nonneg _ (by omega);have hm2:x % n < n:=Int.emod_lt_of_pos _ (by omega);have hm3:x % n ≤ x:=Ot hx1 (by omega);clear hc hg
   go_wp2_with fail
   go_ret
   exact ⟨x % n,rfl,⟨hm1,by omega,.inl hm2⟩,⟨p + 1,s',by omega,HC.out⟩,HG.out⟩
  ·go_enter Tryz.func62,Tryz.ntmps62
   go_wp2_with fail
   refine CN.out.mono ?_;rintro e w1 ⟨x,s',rfl,hx1,hx2,-,-,hc,hg,-⟩;have CN2:=Lib.hid (Cb w1 gc cv L (p + 1) s' hc (by omega));have HG:=Lib.hid hg;clear hc hg
   go_wp2_with fail
   refine CN2.out.mono ?_;rintro e w2 ⟨y,s2,rfl,hy1,hy2,-,-,hc,hg,-⟩;have HC:=Lib.hid hc;have HG2:=Lib.hid (zu HG.out hg);have hm1:0 ≤ (x * 256 + y) % n:=Int.emod_nonneg _ (by omega);have hm2:(x * 256 + y) % n < n:=Int.emod_lt_of_pos _ (by omega);have hm3:(x * 256 + y) % n ≤ x * 256 + y:=Ot (by omega) (by omega);clear hc hg
   go_wp2_with fail
   go_ret
   exact ⟨(x * 256 + y) % n,rfl,⟨hm1,by omega,.inl hm2⟩,⟨p + 1 + 1,s2,by omega,HC.out⟩,HG2.out⟩
def jbg (w:World) (gc:Nat) (cv:Value) (L A:Nat) (e:Ending) (w':World):Prop:=∃ b:Bool,e = .returned (.bool b) ∧ CurR w' gc cv L A ∧ w.grownBy w' (some gc)
set_option maxRecDepth 100000 in
theorem Wv (w:World) (gc:Nat) (cv:Value) (L A:Nat) (n:Int) (h:CurR w gc cv L A) (hp:A ≤ 4611686018427387900) :
 Calls Tryz.prog 63 #[.pointer (some ⟨gc,0,none⟩),.int .i64 n] w (jbg w gc cv L (A + 2)):=by
 have CP:=Lib.hid (wu w gc cv L A n h hp);clear h
 go_enter Tryz.func63,Tryz.ntmps63
 go_wp2_with fail
 refine CP.out.mono ?_;rintro e w1 ⟨x,rfl,-,hc,hg⟩;have HC:=Lib.hid hc;have HG:=Lib.hid hg;clear hc hg
 go_wp2_with fail
 go_ret
 exact ⟨_,rfl,HC.out,HG.out⟩
def vl (xs:List Int) (x:Int):Prop:=∃ j,j < xs.length ∧ x = gi xs j
theorem IntsR.grown {w w':World} {S:Nat → Prop} {gc:Nat} {v:Value} {xs:List Int} (h:IntsR w S v xs) (hg:w.grownBy w' (some gc)) (hS:∀ b,S b → b ≠ gc):IntsR w' S v xs :=
 h.keep (fun _ h=>h) fun b hb hl=>hg.block b hl (by simpa using hS b hb)
set_option maxRecDepth 100000 in
theorem Rf {S:Nat → Prop} (w:World) (gc:Nat) (cv:Value) (L A:Nat) (v:Value) (xs:List Int) (h:CurR w gc cv L A) (hp:A ≤ 4611686018427387900) (hl:IntsR w S v xs) (hS:∀ b,S b → b ≠ gc) (hx:0 < xs.length) (hn:xs.length ≤ 1048576) :
 Calls Tryz.prog 60 #[.pointer (some ⟨gc,0,none⟩),v] w (Yu w gc cv L (A + 2) (vl xs)):=by
 have CP:=Lib.hid (wu w gc cv L A xs.length h hp);have HL:=Lib.hid hl;obtain ⟨Av,c,rfl,-,-,-⟩:=hl;clear h
 go_enter Tryz.func60,Tryz.ntmps60
 go_wp2_with fail
 refine CP.out.mono ?_;rintro e w1 ⟨x,rfl,⟨hx1,hx2,hx3⟩,hc,hg⟩;have HC:=Lib.hid hc;have HG:=Lib.hid hg;obtain ⟨j,hj⟩:∃ j:Nat,x = j:=⟨x.toNat,by omega⟩;subst hj;have hjl:j < xs.length:=by omega
 obtain ⟨A2,c2,e1,-,-,hx⟩:=HL.out.grown hg hS;cases e1;obtain ⟨b,off,rfl,-,hcell⟩:=hx (by omega);have h1:=hcell j hjl;clear hc hg hcell hx hx3
 go_wp2_with fail
 go_ret
 exact ⟨_,rfl,⟨j,hjl,rfl⟩,HC.out,HG.out⟩
def jc1 (w:World) (gc:Nat) (cv:Value) (L A n:Nat) (e:Ending) (w':World):Prop :=
 ∃ (g:Nat) (xs:List Int),e = .returned (.slice (some ⟨g,0,none⟩) n n) ∧ OwnI w' w.heap.size (.slice (some ⟨g,0,none⟩) n n) xs ∧ xs.Perm (cp n) ∧ CurR w' gc cv L A ∧ w.grownBy w' (some gc)
set_option maxRecDepth 100000 in
set_option maxHeartbeats 1000000 in
theorem S8 (w:World) (gc:Nat) (cv:Value) (L A n:Nat) (h:CurR w gc cv L A) (hn:n ≤ 1048576) (hp:A + 2 * n ≤ 4611686018427387900) :
 Calls Tryz.prog 79 #[.pointer (some ⟨gc,0,none⟩),.int .i64 n] w (jc1 w gc cv L (A + 2 * n) n):=by
 have hmk:=fun W=>Go.run_make_row' (P:=Tryz.prog) 26 3 (.int .i64 0) 8 Tryz.underlying26 sn rfl .i64 .i64 n (by omega) (by omega) W;have HR0:=Lib.hid (World.rowIs_made w (.int .i64 0) n 3);have HB0:=Lib.hid ((Below.refl w.heap.size w).alloc (Nat.le_refl _) (.cells (madeCells #[.int .i64 0] n) 3));have HC:=Lib.hid h;have HBY:=Lib.hid h.bytes;have hgc:=h.lt;clear h
 go_enter Tryz.func79,Tryz.ntmps79
 go_wp2
 clear hmk
 go_loopw [14] (fun i wr=>∃ k:Nat,k ≤ n ∧ i = .int .i64 k ∧ wr.rowIs w.heap.size 3 n (fun i=>if i < k then .int .i64 i else .int .i64 0) ∧ Below w.heap.size w wr) (fun i _=>n - (intOf i).toNat)
 case atStart=>exact ⟨0,Nat.zero_le _,rfl,by simpa using HR0.out,HB0.out⟩
 case round =>
  obtain ⟨k,hk,rfl,hrow,hbel⟩:=hrel;have HRW:=Lib.hid hrow;have HBE:=Lib.hid hbel
  by_cases hlt:k < n
  ·have c1:=hrow.cell hlt;have f1:=hrow.frozen k;clear hrow hbel
   go_wp2
   go_roundw
   case rel =>
    refine ⟨k + 1,by omega,by go_num,(HRW.out.set k (.int .i64 k)).congr fun i hi=>?_,HBE.out.setCell (Nat.le_refl _) _⟩
    by_cases h1:i = k
    ·subst h1; simp
    ·by_cases h2:i < k
     ·simp [h1,h2,show i < k + 1 by omega]
     ·simp [h1,h2,show ¬ i < k + 1 by omega]
   case measure=>simp [intOf]; omega
  ·obtain rfl:k = n:=by omega
   clear hrow hbel
   have HO:Hid (OwnI wr w.heap.size (.slice (some ⟨w.heap.size,0,none⟩) k k) (cp k)) :=
    OwnI.of_rowIs (HRW.out.congr fun i hi=>by simp [hi,Bk hi]) (dl _) (Nat.le_refl _) (by unfold maxLen; omega)
   have HCW:=Lib.hid (HC.out.keep HBE.out);have HGW:=Lib.hid (zv (World.grownBy.refl w (some gc)) HBE.out);clear HRW HR0 HB0 HC
   go_wp2
   go_loopw [7] (fun i wr=>∃ (m:Nat) (xs:List Int),m ≤ k ∧ i = .int .i64 ((m:Int) - 1) ∧ OwnI wr w.heap.size (.slice (some ⟨w.heap.size,0,none⟩) k k) xs ∧ xs.Perm (cp k) ∧ CurR wr gc cv L (A + 2 * (k - m)) ∧ w.grownBy wr (some gc)) (fun i _=>(intOf i).toNat)
   case atStart=>exact ⟨k,cp k,Nat.le_refl _,rfl,HO.out,List.Perm.refl _,by simpa using HCW.out,HGW.out⟩
   case round =>
    clear HO HCW HGW HBE;obtain ⟨m,xs,hm,rfl,hown,hperm,hcur,hgr⟩:=hrel;have HOW:=Lib.hid hown;have HPM:=Lib.hid hperm;have HCU:=Lib.hid hcur;have HGR:=Lib.hid hgr;clear hown hperm hcur hgr
    by_cases h1:1 < m
    ·obtain ⟨q,rfl⟩:∃ q,m = q + 1:=⟨m - 1,by omega⟩;have CP:=Lib.hid (wu wr gc cv L (A + 2 * (k - (q + 1))) ((q:Int) + 1) HCU.out (by omega));have e1:(((q + 1:Nat):Int) - 1) = (q:Int):=by omega
     rw [e1];clear e1
     go_wp2_with fail
     refine CP.out.mono ?_;rintro e w1 ⟨x,rfl,⟨hx1,hx2,hx3⟩,hc,hg⟩;obtain ⟨j,hj⟩:∃ j:Nat,x = j:=⟨x.toNat,by omega⟩;subst hj;have hjq:j ≤ q:=by omega
     have hlen:k = xs.length:=by rw [HPM.out.length_eq,dl]
     have hown1:=HOW.out.grown hg hgc;obtain ⟨c1,f1⟩:=hown1.at_ hlen (j:=q) (by omega);obtain ⟨c2,f2⟩:=hown1.at_ hlen (j:=j) (by omega)
     have HO1:Hid (OwnI ((w1.setCell ⟨w.heap.size,q,none⟩ (.int .i64 (gi xs j))).setCell ⟨w.heap.size,j,none⟩ (.int .i64 (gi xs q))) w.heap.size (.slice (some ⟨w.heap.size,0,none⟩) k k) ((xs.set q (gi xs j)).set j (gi xs q))) :=
      (hown1.put hlen _).put (by rw [List.length_set]; exact hlen) _
     have HPN:Hid (((xs.set q (gi xs j)).set j (gi xs q)).Perm (cp k)):=by
      refine List.Perm.trans ?_ HPM.out;rw [bt (by omega),bt (by omega)];exact List.set_set_perm (by omega) (by omega)
     have HCN:=Lib.hid hc;have HGN:=Lib.hid (zu HGR.out hg);obtain ⟨c3,f3⟩:=(hown1.put hlen (j:=q) (gi xs j)).at_ (by rw [List.length_set]; exact hlen) (j:=j) (by omega)
     generalize gi (xs.set q (gi xs j)) j = t at c3
     generalize gi xs j = y at *
     generalize gi xs q = z at *
     clear hown1 hc hg hx3 hlen
     go_wp2_with fail
     go_roundw
     case rel =>
      have hg1:=xb HGN.out (p:=⟨w.heap.size,q,none⟩) (Nat.le_refl _) (.int .i64 y);have hg2:=xb hg1 (p:=⟨w.heap.size,j,none⟩) (Nat.le_refl _) (.int .i64 z);exact ⟨q,_,by omega,rfl,HO1.out,HPN.out,((HCN.out.set (by simp; omega) (HBY.out.grown hg1)).set (by simp; omega) (HBY.out.grown hg2)).mono (by omega),hg2⟩
     case measure=>simp [intOf]; omega
    ·go_wp2_with fail
     go_ret
     exact ⟨_,xs,rfl,HOW.out,HPM.out,HCU.out.mono (by omega),HGR.out⟩
end
section
open Go.RowKit
section
variable {B gc:Nat} {w w1 w2:World}
end
def jc7 (cv:Value) (B:Nat):Prop:=∀ (ad:Addr) (n c:Nat),cv = .slice (some ad) n c → 0 < n → ad.block < B
end
section
def itS:Nat → Int → Int
 | 0,s=>s
 | n + 1,s=>lcg (itS n s) 0
theorem Ax (m n:Nat) (s:Int):itS (m + n) s = itS m (itS n s):=by
 induction m with
 | zero=>simp [itS]
 | succ m ih=>rw [Nat.succ_add]; simp only [itS]; rw [ih]
theorem W9 (s:Int):∃ q:Int,lcg s 0 = s * 6364136223846793005 + 1442695040888963407 - q * 18446744073709551616 :=
 ⟨(s * 6364136223846793005 + 1442695040888963407) / 18446744073709551616,by unfold lcg; omega⟩
theorem I7:∀ k:Nat,∃ m q:Int,∀ s:Int,∃ r:Int,itS (2 ^ k) s = (1 + 2 ^ (k + 2) * m) * s + 2 ^ k * (1 + 2 * q) - r * 18446744073709551616
 | 0=>⟨1591034055961698251,721347520444481703,fun s=>by
  obtain ⟨r,hr⟩:=W9 s;refine ⟨r,?_⟩;show lcg (itS 0 s) 0 = _;simp only [itS];rw [hr];rw [show (2:Int) ^ (0 + 2) = 4 from rfl,show (2:Int) ^ 0 = 1 from rfl]
  omega⟩
 | k + 1=>by
  obtain ⟨m,q,h⟩:=I7 k;refine ⟨m + 2 ^ (k + 1) * m * m,q + 2 ^ (k + 1) * m * q + 2 ^ k * m,fun s=>?_⟩;obtain ⟨r,hr⟩:=h s;obtain ⟨r',hr'⟩:=h (itS (2 ^ k) s);refine ⟨(1 + 2 ^ (k + 2) * m) * r + r',?_⟩;rw [show 2 ^ (k + 1) = 2 ^ k + 2 ^ k by omega,Ax,hr',hr];have e1:(2:Int) ^ (k + 1 + 2) = 8 * 2 ^ k:=by rw [show k + 1 + 2 = k + 3 by omega,Int.pow_add]; omega
  have e2:(2:Int) ^ (k + 2) = 4 * 2 ^ k:=by rw [Int.pow_add]; omega
  have e3:(2:Int) ^ (k + 1) = 2 * 2 ^ k:=by rw [Int.pow_add]; omega
  rw [e1,e2,e3]
  generalize (2:Int) ^ k = x
  grind
theorem Ud (k:Nat) (hk:k + 1 ≤ 64) (s:Int):∃ z:Int,itS (2 ^ k) s = s + 2 ^ k + 2 ^ (k + 1) * z:=by
 obtain ⟨m,q,h⟩:=I7 k;obtain ⟨r,hr⟩:=h s;obtain ⟨d,hd⟩:∃ d,64 = k + 1 + d:=⟨64 - (k + 1),by omega⟩
 have e0:(18446744073709551616:Int) = 2 ^ (k + 1) * 2 ^ d:=by
  rw [← Int.pow_add,← hd]; rfl
 refine ⟨2 * m * s + q - r * 2 ^ d,?_⟩;rw [hr,e0];have e2:(2:Int) ^ (k + 2) = 4 * 2 ^ k:=by rw [Int.pow_add]; omega
 have e3:(2:Int) ^ (k + 1) = 2 * 2 ^ k:=by rw [Int.pow_add]; omega
 rw [e2,e3]
 generalize (2:Int) ^ k = x
 generalize (2:Int) ^ d = y
 grind
theorem I8:∀ k:Nat,k ≤ 64 → ∀ s t:Int,∃ n:Nat,n < 2 ^ k ∧ ∃ z:Int,itS n s = t + 2 ^ k * z
 | 0,_,s,t=>⟨0,by simp,s - t,by simp [itS]; omega⟩
 | k + 1,hk,s,t=>by
  obtain ⟨n,hn,z,hz⟩:=I8 k (by omega) s t
  rcases Int.emod_two_eq z with h0 | h1
  ·refine ⟨n,by omega,z / 2,?_⟩;have hz2:z = 2 * (z / 2):=by omega
   have e3:(2:Int) ^ (k + 1) = 2 ^ k * 2:=by rw [Int.pow_add]; rfl
   rw [hz,e3,Int.mul_assoc,← hz2]
  ·obtain ⟨y,hy⟩:=Ud k hk (itS n s);refine ⟨2 ^ k + n,by omega,(z + 1) / 2 + y,?_⟩;rw [Ax,hy,hz];have hz2:z + 1 = 2 * ((z + 1) / 2):=by omega
   have e3:(2:Int) ^ (k + 1) = 2 * 2 ^ k:=by rw [Int.pow_add]; omega
   rw [e3]
   generalize (z + 1) / 2 = a at *
   obtain rfl:z = 2 * a - 1:=by omega
   generalize (2:Int) ^ k = x
   grind
theorem C9 (s:Int) (t:Nat) (ht:t < 256):∃ n:Nat,n ≤ 281474976710656 ∧ itS (n + 1) s / 1099511627776 % 256 = t:=by
 obtain ⟨n,hn,z,hz⟩:=I8 48 (by omega) (lcg s 0) ((t:Int) * 1099511627776)
 have e:itS (n + 1) s = itS n (lcg s 0):=by
  rw [Ax n 1 s]; rfl
 have e48:(2:Nat) ^ 48 = 281474976710656:=by rfl
 have e48i:(2:Int) ^ 48 = 281474976710656:=by rfl
 rw [e48] at hn;rw [e48i] at hz;refine ⟨n,by omega,?_⟩;rw [e,hz];omega
end
end Go.Proofs.YtfknckinfcicbaaGreat
