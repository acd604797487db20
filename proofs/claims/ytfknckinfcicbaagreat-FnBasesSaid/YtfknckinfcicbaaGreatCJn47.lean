/- Parts of the proof. -/
import Derived.Test.YtfknckinfcicbaaGreatCJn44
import Derived.Test.YtfknckinfcicbaaGreatCLd6
import Derived.Test.YtfknckinfcicbaaGreatCPst
import Derived.Test.YtfknckinfcicbaaGreatCJn31
import Derived.Test.YtfknckinfcicbaaGreatCJn33
import Derived.Test.YtfknckinfcicbaaGreatCJn39
import Derived.Test.YtfknckinfcicbaaGreatCJn23
import Derived.Test.YtfknckinfcicbaaGreatCDix
import Derived.Test.YtfknckinfcicbaaGreatCJn19
import Derived.Test.YtfknckinfcicbaaGreatCDt
import Derived.Test.YtfknckinfcicbaaGreatCBs5
import Derived.Test.YtfknckinfcicbaaGreatCLwb
set_option linter.unusedSimpArgs false
set_option linter.unusedVariables false
namespace Go.Proofs.YtfknckinfcicbaaGreat
section
set_option maxHeartbeats 0
set_option maxRecDepth 8000
open Go Go.RowKit
def DrawQuotientOfSt6:Nat → Stat
 | 0=>⟨[5],[(5,1)],[5],[23],[],[]⟩
 | 1=>⟨[5],[(5,1)],[5],[24],[],[]⟩
 | 2=>⟨[24],[],[],[25],[],[]⟩
 | 3=>⟨[2,23],[(2,1)],[],[],[(2,1)],[]⟩
 | 4=>⟨[25],[],[25],[3],[(25,1)],[]⟩
 | _=>⟨[],[],[],[],[],[]⟩
def DrawQuotientOfSt8:Nat → Stat
 | 0=>⟨[5],[(5,1)],[5],[28],[],[]⟩
 | 1=>⟨[4],[],[],[29],[],[]⟩
 | 2=>⟨[5],[(5,1)],[],[30],[],[]⟩
 | 3=>⟨[30],[(5,1)],[],[31],[],[]⟩
 | 4=>⟨[31],[],[],[32],[],[]⟩
 | 5=>⟨[29,32],[],[10],[33],[(10,1)],[]⟩
 | 6=>⟨[2,28],[(2,1)],[],[],[(2,1)],[]⟩
 | 7=>⟨[33],[],[33],[3],[(33,1)],[]⟩
 | _=>⟨[],[],[],[],[],[]⟩
def zBBsb1:=PLift.up (And.intro aq (And.intro @netO.eq_1 (And.intro @cf (And.intro bn (And.intro b7 (And.intro cd (And.intro ch (And.intro bb (And.intro ee (And.intro @if_pos.{1} (And.intro @cx (And.intro @cw (And.intro @bo (And.intro @a7 (And.intro @ba (And.intro @df (And.intro @ek (And.intro @netZ.eq_1 (And.intro M7 (And.intro qt (And.intro M8 @trivial)))))))))))))))))))))
theorem Ux:type_of% zBBsb1.down:=zBBsb1.down
theorem ze (bs:List Int) (hby:dp bs):dr Tryz.prog 37 [.c (codeC bs)] NlP:=by
 refine tb (by simp [Arg.isIo]) Tryz.func37 rfl (by rw [Tryz.ntmps37]; simp) fun w0=>?_;rw [Tryz.ntmps37];have dX:=Ux;simp only [bw,bf,Arg.av,codeC];refine ab (dR fun K hK=>?_);(repeat refine eV ?_);refine aa (hK _ (wK [0,2] ?_));clear hK K;refine ab (dR fun K hK=>?_);(repeat refine eV ?_);refine aa (hK _ (wK [2,4,10] ?_));clear hK K;refine ab (dR fun K hK=>?_);(repeat refine eV ?_);refine qn rfl ⟨rfl,_,rfl⟩ (by omega) (by first | exact jci) (Xv bs 0 0 0 hby (Nat.zero_le 0) (by omega)) ?_;rintro _ ⟨p1,s1,_,rfl,hp1,A,B1,m,rfl,hA,hB1,hm⟩;refine ioF ?_;(repeat refine eV ?_);have hAl:=hA.len;have dK:=@netZ.eq_1;refine aa (hK _ (au [2,4,5,7,10] ?_));clear hK K;refine ab ?_;refine ab (dR fun K hK=>?_);(repeat refine eV ?_);refine kg rfl ⟨rfl,_,rfl⟩ (by omega) (by first | exact fg) (ew bs p1 s1 6 _ hby hp1 (by omega)) ?_;rintro _ ⟨p2,s2,_,rfl,hp2,x2,rfl,hx2⟩;refine ioF ?_;(repeat refine eV ?_);refine aa (hK _ (wK [2,4,5,7,10,18] ?_));clear hK K;refine ac ?_;refine ab (dR fun K hK=>?_);(repeat refine eV ?_);refine aa (hK _ (wK [2,4,5,7,10,18,19] ?_));clear hK K;refine dI ?_ ?_<;>intro hb
 ·refine ab (dR fun K hK=>?_);(repeat refine eV ?_);refine cL rfl ⟨rfl,_,rfl⟩ (by omega) (by first | exact zp) (n8 NFz A) ?_;rintro _ rfl;(repeat refine eV ?_);obtain hg | hg:=Bool.eq_false_or_eq_true (bg A)
  ·have dK:=@hg;refine aa (hK _ (au [2,5,7,10,22] ?_));clear hK K;have hn:=jf hg;refine dI ?_ ?_<;>intro hb
   ·have dX:=And.intro dX (@DrawQuotientOfSt6.eq_def);refine ab (cm DrawQuotientOfSt6 (fun j r=>match j with | 2=>r = [.own false [.sl true 3 1 ((bv A 1).map iC)]] | _=>True) fun K hK=>?_);(repeat refine dV ?_);have dX:=And.intro dX (@DrawQuotientOfSt6.eq_def);refine dcF rfl ⟨rfl,_,rfl⟩ (by omega) (by first | exact N0) (Hx NFz A 1 (jv hg) (gd hg) (by omega) (by omega) (by omega)) ?_;rintro _ rfl;(repeat refine dV ?_);refine ak (hK _ (wK [2,3,10] ?_));clear hK K;exact ai (f6 Tryz.results37 (.two (.cell 2 _ _ _ _ rfl rfl aq rfl rfl rfl) (.re _ _ (.own _ _ _ _ rfl rfl (own1 (cq _ _))))) (by decide) ⟨A,bv A 1,rfl,hA,by rw [di]; omega⟩)
   ·cases hb
  ·have dK:=@hg;refine aa (hK _ (au [2,5,7,10,22] ?_));clear hK K;refine dI ?_ ?_<;>intro hb
   ·cases hb
   ·refine af ?_;show DW _ _ _ _ _;refine ab (dR fun K hK=>?_);(repeat refine eV ?_);refine aa (hK _ (wK [2,3,10] ?_));clear hK K;exact ai (f6 Tryz.results37 (.two (.cell 2 _ _ _ _ rfl rfl aq rfl rfl rfl) (.re _ _ (.own _ _ _ _ rfl rfl (own1 (cq _ _))))) (by decide) ⟨A,m,rfl,hA,hm⟩)
 ·refine ab (dR fun K hK=>?_);(repeat refine eV ?_);refine aa (hK _ (wK [2,4,5,7,10,26] ?_));clear hK K;refine dI ?_ ?_<;>intro hb
  ·have dX:=And.intro dX (@DrawQuotientOfSt8.eq_def);refine ab (cm DrawQuotientOfSt8 (fun j r=>match j with | 5=>CurO bs (1152921504800000000 + 2 + 2 * A.ends.length) (fun rs=>∃ xs:List Int,rs = [.own false [.sl true 3 1 (xs.map iC)]] ∧ xs.Perm (cp A.ends.length)) r | _=>True) fun K hK=>?_);(repeat refine dV ?_);have dX:=And.intro dX (@DrawQuotientOfSt8.eq_def);refine rx rfl ⟨rfl,_,rfl⟩ (by omega) (by first | exact Ey) (B5 bs p2 s2 A.ends.length (1152921504800000000 + 2) hby (by omega) (by omega) (by omega)) (CurO.ex ⟨_,cp A.ends.length,rfl,List.Perm.refl _⟩) ?_;rintro _ ⟨p3,s3,_,rfl,hp3,l3,rfl,hl3⟩;refine po ?_;(repeat refine dV ?_);refine ak (hK _ (wK [2,3,10] ?_));clear hK K;exact ai (f6 Tryz.results37 (.two (.cell 2 _ _ _ _ rfl rfl aq rfl rfl rfl) (.re _ _ (.own _ _ _ _ rfl rfl (own1 (cq _ _))))) (by decide) ⟨A,l3,rfl,hA,by rw [(ui hl3).1]; omega⟩)
  ·refine af ?_;show DW _ _ _ _ _;refine ab (dR fun K hK=>?_);(repeat refine eV ?_);refine aa (hK _ (wK [2,3,10] ?_));clear hK K;exact ai (f6 Tryz.results37 (.two (.cell 2 _ _ _ _ rfl rfl aq rfl rfl rfl) (.re _ _ (.own _ _ _ _ rfl rfl (own1 (cq _ _))))) (by decide) ⟨A,m,rfl,hA,hm⟩)
theorem xp (bs:List Int) (hby:dp bs):dr Tryz.prog 28 [.c (codeC bs)] jc8:=by
 refine tb (by simp [Arg.isIo]) Tryz.func28 rfl (by rw [Tryz.ntmps28]; simp) fun w0=>?_;rw [Tryz.ntmps28];have dX:=Ux;simp only [bw,bf,Arg.av,codeC];refine ab (dR fun K hK=>?_);(repeat refine eV ?_);refine aa (hK _ (wK [0,2] ?_));clear hK K;refine ab (dR fun K hK=>?_);(repeat refine eV ?_);refine caF rfl ⟨rfl,_,rfl⟩ (by omega) (by first | exact jcj) (xo bs hby) ?_;rintro _ ⟨N,rfl,hN⟩;(repeat refine eV ?_);have dK:=@netZ.eq_1;refine aa (hK _ (au [2] ?_));clear hK K;exact ai (f6 Tryz.results28 (.one (.cell 2 _ _ _ _ rfl rfl aq rfl rfl rfl)) (by decide) ⟨N,rfl,hN⟩)
end
section
open Go Go.RowKit
theorem Cc:er ku:=⟨Nat.zero_le _,fun i hi=>absurd hi (Nat.not_lt_zero i),Nat.zero_le _,Nat.zero_le _⟩
theorem Cv {N:Net} (hg:bg N = true) (hi:N.ids.length ≤ 262144):er N:=by
 obtain ⟨hs,hn,hids,hdg⟩:=ep hg;have:=gd hg;exact ⟨by omega,fun i _=>by have:=hdg i; omega,hi,by omega⟩
theorem Wc (n v:Nat) (h:v < n):gi (cp n) v = (v:Int):=Bk h
theorem Vg {N:Net} {d:Nat} (hg:bg N = true) (hd:IsSd N d):∃ (Q:Net) (e:Nat),Q = quN N (bv N d) (br N d) ∧ bg Q = true ∧ Q.ids = [] ∧ IsSd Q e ∧ bv Q e = cp Q.ends.length ∧ Md N Q (bv N d) = true ∧ wm N (bv N d) = [.own true (netO Q),.c (.p (.bool true))] ∧
 pmB Q Q (cp Q.ends.length) = true ∧ ∀ m,pmB Q Q m = true → m = cp Q.ends.length:=by
 have hr:=ju hg;have hQ:=By hd hg;have hrQ:=ju hQ;obtain ⟨e,he⟩:=Sp hrQ
 have hap:∀ a b,a < (quN N (bv N d) (br N d)).ends.length → b < (quN N (bv N d) (br N d)).ends.length → vk (quN N (bv N d) (br N d)) e a = vk (quN N (bv N d) (br N d)) e b → a = b:=fun a b ha hb h=>by
  rw [gv] at ha hb;exact Pw hd hr hrQ he ha hb h
 refine ⟨_,e,rfl,hQ,rfl,he,Hy hap,?_,?_,jce (jv hQ).sym,fun m hm=>Wt hrQ hap hm⟩
 ·unfold Md;rw [Ga hd hr,Bool.true_and,lh];intro c hc;rw [gv] at hc;exact ip hd hr hc
 ·obtain ⟨h1,h2⟩:=K4 hg hd;rw [qy h1,h2]
theorem Wp {M:Net} {c:List Int} (h:j7 M c = true):bg M = true ∧ bg (quN M c (du c).toNat) = true ∧ Md M (quN M c (du c).toNat) c = true:=by
 unfold j7 at h;simp only [Bool.and_eq_true,decide_eq_true_iff] at h;obtain ⟨⟨⟨⟨⟨h1,h2⟩,-⟩,h4⟩,h5⟩,h6⟩:=h;refine ⟨h1,h5,?_⟩;unfold Md;rw [h6,Bool.true_and,gv];exact h4
def zBLaBases1:=PLift.up (And.intro aq (And.intro @cf (And.intro bn (And.intro b7 (And.intro bb (And.intro ee (And.intro @if_pos.{1} (And.intro ch (And.intro @netZ.eq_1 (And.intro @netO.eq_1 (And.intro jcw (And.intro @bne_self_eq_false.{0} (And.intro @beq_self_eq_true.{0} (And.intro @Bool.not_true (And.intro @Bool.not_false (And.intro @Bool.true_beq (And.intro @Bool.false_beq (And.intro @Bool.true_bne (And.intro @Bool.false_bne (And.intro @Bool.not_not (And.intro @bo (And.intro @df (And.intro @ek (And.intro @a7 @trivial))))))))))))))))))))))))
theorem L4:type_of% zBLaBases1.down:=zBLaBases1.down
set_option maxRecDepth 8000 in
set_option maxHeartbeats 0 in
theorem Rh (a b:List Int) (hA:ki a) (hB:ki b):dr Tryz.prog 5 [.c (codeC a),.c (codeC b)] (fun r=>r = [.c (.p (.bool true))]):=by
 refine tb (by simp [Arg.isIo]) Tryz.func5 rfl (by rw [Tryz.ntmps5]; simp) fun w0=>?_;rw [Tryz.ntmps5];have dX:=L4;simp only [bw,bf,Arg.av,codeC];refine ab (dR fun K hK=>?_);(repeat refine eV ?_);refine aa (hK _ (wK [0,1] ?_));clear hK K;refine ab ?_;refine ab (dR fun K hK=>?_);(repeat refine eV ?_);refine cL rfl ⟨rfl,_,rfl⟩ (by omega) (by first | exact jdk) (jcx a b hA) ?_;rintro _ rfl;(repeat refine eV ?_);refine aa (hK _ (wK [0,1,33] ?_));clear hK K;refine dI ?_ ?_<;>intro hb
 ·refine ab (dR fun K hK=>?_);(repeat refine eV ?_);refine aa (hK _ (wK [4] ?_));clear hK K;exact ai (f6 Tryz.results5 (.one (.re _ _ (.plain _ _ rfl))) (by decide) rfl)
 ·obtain ⟨hby,hby2⟩:=X1 hb hA hB;refine af ?_;show DW _ _ _ _ _;refine ab (dR fun K hK=>?_);(repeat refine eV ?_);refine caF rfl ⟨rfl,_,rfl⟩ (by omega) (by first | exact jcp) (xp a hby) ?_;rintro _ ⟨N,rfl,htm⟩;(repeat refine eV ?_);refine aa (hK _ (wK [1,5] ?_));clear hK K;have hidl:=htm.ids;obtain hg | hg:=Bool.eq_false_or_eq_true (bg N)
  ·obtain ⟨d,hd⟩:=Sp (ju hg);obtain ⟨Q,e,hQe,hQg,hQi,he,hcl,hcov,hquo,hid,hone⟩:=Vg hg hd;obtain ⟨hQs,hQn,hQids,hQdg⟩:=ep hQg;have hmb:=D3 NFz N d hg hd;have hms:=Dq NFz N d hg hd;rw [← hQe] at hmb hms;have hQsm:er Q:=Cv hQg (by rw [hQi]; exact Nat.zero_le _);have hic:=tz NFz NFz N Q true 3 (bv N d) (by omega) hQids (by rw [di]; have:=htm.len; omega);unfold Mc at hic;rw [hg,hQg,hcov] at hic;have hqi:=tx NFz N true 3 (bv N d) (by omega) (by rw [di]; have:=htm.len; omega);rw [hquo] at hqi;have htq:=nl NFz Q e hQg he;rw [hcl] at htq;have hul:(cp Q.ends.length).length = Q.ends.length:=dl _;have hQne:((Q.ends.length:Int) != (Q.ends.length:Int)) = false:=bne_self_eq_false _;have hQQ:(Q.ends.map (esC 97)).length = Q.ends.length:=List.length_map _;refine ab (dR fun K hK=>?_);(repeat refine eV ?_);refine cL rfl ⟨rfl,_,rfl⟩ (by omega) (by first | exact Yr) (hmb) ?_;rintro _ rfl;(repeat refine eV ?_);have dK:=@netO.eq_1;refine aa (hK _ (au [1,5,6,7] ?_));clear hK K;refine vj 6 [1,5,6,7] (by simp only [ae,pZ,simprocAttr]; exact rfl) ?_;refine ab (dR fun K hK=>?_);(repeat refine eV ?_);refine cL rfl ⟨rfl,_,rfl⟩ (by omega) (by first | exact Yq) (hms) ?_;rintro _ rfl;(repeat refine eV ?_);have dK:=@netO.eq_1;refine aa (hK _ (au [1,5,6,7,8,9] ?_));clear hK K;refine ab ?_;refine ab (dR fun K hK=>?_);(repeat refine eV ?_);refine cgF rfl rfl ⟨rfl,_,rfl⟩ (by omega) (by first | exact I4) (lz NFz NFo Q hQsm) ?_;rintro _ rfl;(repeat refine eV ?_);(repeat refine eV ?_);refine aa (hK _ (wK [1,5,6,7,54] ?_));clear hK K;refine dI ?_ ?_<;>intro hb
   ·cases hb
   ·refine af ?_;show DW _ _ _ _ _;refine ab ?_;refine ab (dR fun K hK=>?_);(repeat refine eV ?_);refine aa (hK _ (wK [1,5,6,56] ?_));clear hK K;refine dI ?_ ?_<;>intro hb
    ·cases hb
    ·refine af ?_;show DW _ _ _ _ _;refine ab (dR fun K hK=>?_);(repeat refine eV ?_);refine cL rfl ⟨rfl,_,rfl⟩ (by omega) (by first | exact N8) (nl NFz N d hg hd) ?_;rintro _ rfl;(repeat refine eV ?_);refine aa (hK _ (wK [1,5,6,10,11] ?_));clear hK K;refine ab (dR fun K hK=>?_);(repeat refine eV ?_);refine cL rfl ⟨rfl,_,rfl⟩ (by omega) (by first | exact Yp) (hic) ?_;rintro _ rfl;(repeat refine eV ?_);refine aa (hK _ (wK [1,5,6,10,11,12,13] ?_));clear hK K;refine ab (dR fun K hK=>?_);(repeat refine eV ?_);refine cL rfl ⟨rfl,_,rfl⟩ (by omega) (by first | exact To) (hqi) ?_;rintro _ rfl;(repeat refine eV ?_);have dK:=@netO.eq_1;refine aa (hK _ (au [1,6,11,12,13,14,15] ?_));clear hK K;refine ab (dR fun K hK=>?_);(repeat refine eV ?_);refine cL rfl ⟨rfl,_,rfl⟩ (by omega) (by first | exact N8) (htq) ?_;rintro _ rfl;(repeat refine eV ?_);refine aa (hK _ (wK [1,6,11,12,13,14,15,16,17] ?_));clear hK K;refine ab ?_;refine ab (dR fun K hK=>?_);(repeat refine eV ?_);refine cgF rfl rfl ⟨rfl,_,rfl⟩ (by omega) (by first | exact I4) (lz NFo NFz Q hQsm) ?_;rintro _ rfl;(repeat refine eV ?_);have dX:=And.intro dX (And.intro @hul (And.intro @hQne @hQQ));(repeat refine eV ?_);have dK:=And.intro @hul (And.intro @hQne @hQQ);refine aa (hK _ (au [1,6,16,111] ?_));clear hK K;refine dI ?_ ?_<;>intro hb
     ·cases hb
     ·refine af ?_;show DW _ _ _ _ _;refine ab ?_;have dX:=And.intro dX (@hul);refine ab (dR fun K hK=>?_);(repeat refine eV ?_);have dK:=@hul;refine aa (hK _ (au [1,6,16,113,114] ?_));clear hK K;refine ac ?_;refine ax (X:=Nat) (fun v=>v ≤ Q.ends.length) (fun v=>[(114,.c (.p (.int .i64 v)))]) (fun v=>[]) (fun v=>Q.ends.length - v) 0 (Nat.zero_le _) (by first | rfl | (simp only [ae,pZ,simprocAttr,Int.natCast_zero] <;> rfl)) ?_;rintro v hv;intro E hE;simp only [ae,pZ,simprocAttr] at hE;subst hE;refine ab (dR fun K hK=>?_);(repeat refine eV ?_);refine aa (hK _ (wK [1,6,16,113,114,115] ?_));clear hK K;refine ab (dI (fun hb=>?_) (fun hb=>?_))
      ·have hv1:v < Q.ends.length:=by simpa using hb
       have hgv:=Wc Q.ends.length v hv1;have hgn:((v:Int) != (v:Int)) = false:=bne_self_eq_false _;refine af ?_;show DW _ _ _ _ _;refine ab (ac ?_);refine ab (dR fun K hK=>?_);(repeat refine eV ?_);refine aa (hK _ (wK [1,6,16,18,113,114] ?_));clear hK K;have dX:=And.intro dX (And.intro @hul (And.intro @hgv (And.intro @hgn @Int.toNat_natCast)));refine ab (dR fun K hK=>?_);(repeat refine eV ?_);have dK:=And.intro @hgv @hgn;refine aa (hK _ (au [1,6,16,113,114,122] ?_));clear hK K;refine dI ?_ ?_<;>intro hb
       ·cases hb
       ·refine af ?_;show DW _ _ _ _ _;refine dR fun K hK=>?_;(repeat refine eV ?_);have dK:=@bj;refine aa (hK _ ?_);clear hK K;show ∃ x,_ ∧ _ ∧ Weak _ _;refine ⟨v + 1,?_,?_,ay [1,6,16,113,114]⟩
        ·omega
        ·omega
      ·refine an ?_;refine wK [1,6,16] ?_;refine ab (dR fun K hK=>?_);(repeat refine eV ?_);refine cL rfl ⟨rfl,_,rfl⟩ (by omega) (by first | exact jco) (D5 NFz Q hQg (show 0 < Q.ends.length by omega)) ?_;rintro _ rfl;(repeat refine eV ?_);refine aa (hK _ (wK [1,6,16,19,20] ?_));clear hK K;refine pn (X:=Unit) (fun _u=>True) (fun _u=>mkE 192 [(1,.c (codeC b))] []) ?_ ?_
       ·obtain hcQ | hcQ:=Bool.eq_false_or_eq_true (qh Q 0)
        ·have hsu:Br (cp Q.ends.length) (cp Q.ends.length) = true:=ud _;have hlg:lg [cp Q.ends.length] 0 = cp Q.ends.length:=rfl;have h1l:(([cp Q.ends.length].length:Nat):Int) = 1:=rfl;have dX:=And.intro dX (@hcQ);refine ab (dR fun K hK=>?_);(repeat refine eV ?_);have dK:=@hcQ;refine aa (hK _ (au [1,6,16,132] ?_));clear hK K;refine dI ?_ ?_<;>intro hb
         ·refine ab (dR fun K hK=>?_);(repeat refine eV ?_);refine cL rfl ⟨rfl,_,rfl⟩ (by omega) (by first | exact jcn) (sa NFz NFz Q hQg hcQ hone hid) ?_;rintro _ rfl;(repeat refine eV ?_);refine aa (hK _ (wK [1,16,21,22] ?_));clear hK K;refine ab (dR fun K hK=>?_);(repeat refine eV ?_);refine cgF rfl rfl ⟨rfl,_,rfl⟩ (by omega) (by first | exact Tz) (ue true 3 (cp Q.ends.length) true 3 (cp Q.ends.length) (by omega) (by omega)) ?_;rintro _ rfl;(repeat refine eV ?_);have dX:=And.intro dX (@hsu);(repeat refine eV ?_);have dK:=@hsu;refine aa (hK _ (au [1,153] ?_));clear hK K;refine dI ?_ ?_<;>intro hb
          ·cases hb
          ·refine af ?_;show ∃ x,_ ∧ Weak _ _;refine ⟨(),?_,(ce _ [1]).trans (Weak.of_eq (by simp only [ae,pZ,simprocAttr] <;> exact rfl))⟩;exact trivial
         ·cases hb
        ·have dX:=And.intro dX (@hcQ);refine ab (dR fun K hK=>?_);(repeat refine eV ?_);have dK:=@hcQ;refine aa (hK _ (au [1,6,16,132] ?_));clear hK K;refine dI ?_ ?_<;>intro hb
         ·cases hb
         ·refine af ?_;show ∃ x,_ ∧ Weak _ _;refine ⟨(),?_,(ce _ [1]).trans (Weak.of_eq (by simp only [ae,pZ,simprocAttr] <;> exact rfl))⟩;exact trivial
       ·rintro _ _;have dX:=And.intro dX (@codeC.eq_1);refine ab (dR fun K hK=>?_);(repeat refine eV ?_);have dX:=And.intro dX (@codeC.eq_1);refine caF rfl ⟨rfl,_,rfl⟩ (by omega) (by first | exact jcm) (ze b hby2) ?_;rintro _ ⟨M,c,rfl,hM,hc⟩;(repeat refine eV ?_);refine aa (hK _ (wK [23,24] ?_));clear hK K;have hMi:=hM.ids;have hMl:=hM.len;have hq1:=tx NFz M true 3 c (by omega) (by omega);have hq2:=D0 NFz M true 3 c (by omega);obtain hb2 | hb2:=Bool.eq_false_or_eq_true (j7 M c)
        ·obtain ⟨c1,c2,c3⟩:=Wp hb2;rw [qy hb2] at hq1 hq2;have hRi:(quN M c (du c).toNat).ids = []:=rfl;obtain ⟨R,hR⟩:∃ R,R = quN M c (du c).toNat:=⟨_,rfl⟩;rw [← hR] at hq1 hq2 c2 c3 hRi;have hic2:=tz NFz NFo M R true 3 c (by omega) (by rw [hRi]; exact Nat.zero_le _) (by omega);unfold Mc at hic2;rw [c1,c2,c3] at hic2;have hRs:er R:=Cv c2 (by rw [hRi]; exact Nat.zero_le _);refine ab (dR fun K hK=>?_);(repeat refine eV ?_);refine cL rfl ⟨rfl,_,rfl⟩ (by omega) (by first | exact To) (hq1) ?_;rintro _ rfl;(repeat refine eV ?_);have dK:=@netO.eq_1;refine aa (hK _ (au [23,24,25,26] ?_));clear hK K;refine ab (dR fun K hK=>?_);(repeat refine eV ?_);refine cL rfl ⟨rfl,_,rfl⟩ (by omega) (by first | exact Yo) (hq2) ?_;rintro _ rfl;(repeat refine eV ?_);have dK:=@netO.eq_1;refine aa (hK _ (au [23,24,25,26,27,28] ?_));clear hK K;refine ab ?_;refine ab (dR fun K hK=>?_);(repeat refine eV ?_);refine cgF rfl rfl ⟨rfl,_,rfl⟩ (by omega) (by first | exact I4) (lz NFo NFo R hRs) ?_;rintro _ rfl;(repeat refine eV ?_);(repeat refine eV ?_);refine aa (hK _ (wK [23,24,25,26,179] ?_));clear hK K;refine dI ?_ ?_<;>intro hb
         ·cases hb
         ·refine af ?_;show DW _ _ _ _ _;refine ab ?_;refine ab (dR fun K hK=>?_);(repeat refine eV ?_);refine aa (hK _ (wK [23,24,25,180] ?_));clear hK K;refine dI ?_ ?_<;>intro hb
          ·refine ab (dR fun K hK=>?_);(repeat refine eV ?_);refine cL rfl ⟨rfl,_,rfl⟩ (by omega) (by first | exact Yp) (hic2) ?_;rintro _ rfl;(repeat refine eV ?_);refine aa (hK _ (wK [29,30] ?_));clear hK K;refine ab (dR fun K hK=>?_);(repeat refine eV ?_);refine aa (hK _ (wK [4] ?_));clear hK K;exact ai (f6 Tryz.results5 (.one (.re _ _ (.plain _ _ rfl))) (by decide) rfl)
          ·cases hb
        ·rw [gu hb2] at hq1 hq2;refine ab (dR fun K hK=>?_);(repeat refine eV ?_);refine cL rfl ⟨rfl,_,rfl⟩ (by omega) (by first | exact To) (hq1) ?_;rintro _ rfl;(repeat refine eV ?_);have dK:=@netO.eq_1;refine aa (hK _ (au [23,24,25,26] ?_));clear hK K;refine ab (dR fun K hK=>?_);(repeat refine eV ?_);refine cL rfl ⟨rfl,_,rfl⟩ (by omega) (by first | exact Yo) (hq2) ?_;rintro _ rfl;(repeat refine eV ?_);have dK:=@netO.eq_1;refine aa (hK _ (au [23,24,25,26,27,28] ?_));clear hK K;refine ab ?_;refine ab (dR fun K hK=>?_);(repeat refine eV ?_);refine cgF rfl rfl ⟨rfl,_,rfl⟩ (by omega) (by first | exact I4) (lz NFo NFo ku Cc) ?_;rintro _ rfl;(repeat refine eV ?_);(repeat refine eV ?_);refine aa (hK _ (wK [23,24,25,26,179] ?_));clear hK K;refine dI ?_ ?_<;>intro hb
         ·cases hb
         ·refine af ?_;show DW _ _ _ _ _;refine ab ?_;refine ab (dR fun K hK=>?_);(repeat refine eV ?_);refine aa (hK _ (wK [23,24,25,180] ?_));clear hK K;refine dI ?_ ?_<;>intro hb
          ·cases hb
          ·refine af ?_;show DW _ _ _ _ _;refine ab (dR fun K hK=>?_);(repeat refine eV ?_);refine aa (hK _ (wK [4] ?_));clear hK K;exact ai (f6 Tryz.results5 (.one (.re _ _ (.plain _ _ rfl))) (by decide) rfl)
  ·refine ab (dR fun K hK=>?_);(repeat refine eV ?_);refine cL rfl ⟨rfl,_,rfl⟩ (by omega) (by first | exact Yr) (Dp NFz N (by omega) hg) ?_;rintro _ rfl;(repeat refine eV ?_);have dK:=@netO.eq_1;refine aa (hK _ (au [1,5,6,7] ?_));clear hK K;refine ab (dR fun K hK=>?_);(repeat refine eV ?_);refine cL rfl ⟨rfl,_,rfl⟩ (by omega) (by first | exact Yq) (Aj NFz N hg) ?_;rintro _ rfl;(repeat refine eV ?_);have dK:=@netO.eq_1;refine aa (hK _ (au [1,5,6,7,8,9] ?_));clear hK K;refine ab ?_;refine ab (dR fun K hK=>?_);(repeat refine eV ?_);refine cgF rfl rfl ⟨rfl,_,rfl⟩ (by omega) (by first | exact I4) (lz NFo NFo ku Cc) ?_;rintro _ rfl;(repeat refine eV ?_);(repeat refine eV ?_);refine aa (hK _ (wK [1,5,6,7,54] ?_));clear hK K;refine dI ?_ ?_<;>intro hb
   ·cases hb
   ·refine af ?_;show DW _ _ _ _ _;refine ab ?_;refine ab (dR fun K hK=>?_);(repeat refine eV ?_);refine aa (hK _ (wK [1,5,6,56] ?_));clear hK K;refine dI ?_ ?_<;>intro hb
    ·refine ab (dR fun K hK=>?_);(repeat refine eV ?_);refine aa (hK _ (wK [4] ?_));clear hK K;exact ai (f6 Tryz.results5 (.one (.re _ _ (.plain _ _ rfl))) (by decide) rfl)
    ·cases hb
theorem T7 (v0 v1:Value) (L0 L1:Nat) (w:World) (h0:Ke w v0 L0) (h1:Ke w v1 L1):Calls Tryz.prog 5 #[v0,v1] w (tg w (.bool true)):=Z2 (fun a b hA hB=>Rh a b hA hB) h0 h1
end
end Go.Proofs.YtfknckinfcicbaaGreat
