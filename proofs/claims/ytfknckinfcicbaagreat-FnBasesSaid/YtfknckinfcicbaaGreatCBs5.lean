/- The port maps of a connected network to itself where the identity is the only one: PortMapsBetween over data -/
import Derived.Test.YtfknckinfcicbaaGreatCJn44
import Derived.Test.YtfknckinfcicbaaGreatCJn32
import Derived.Test.YtfknckinfcicbaaGreatCJn39
set_option linter.unusedSimpArgs false
set_option linter.unusedVariables false
namespace Go.Proofs.YtfknckinfcicbaaGreat
open Go Go.RowKit
def zBBs51:=PLift.up (And.intro aq (And.intro @netO.eq_1 (And.intro @cf (And.intro bn (And.intro b7 (And.intro cd (And.intro ch (And.intro bb (And.intro ee (And.intro @if_pos.{1} (And.intro @cx (And.intro @cw (And.intro @bo (And.intro @a7 (And.intro @ba (And.intro @df (And.intro @ek @trivial)))))))))))))))))
theorem ja6:type_of% zBBs51.down:=zBBs51.down
set_option maxRecDepth 8000 in
set_option maxHeartbeats 0 in
theorem sa (f g:NF) (M:Net) (hg:bg M = true) (hc:qh M 0 = true) (hone:∀ m,pmB M M m = true → m = cp M.ends.length) (hid:pmB M M (cp M.ends.length) = true):DCalls Tryz.prog 36 [.agg (be f M),.agg (be g M)] (fun r=>r = [.own false [.sl true 26 1 ([cp M.ends.length].map (lsC 3))],.c (.p (.bool true))]):=by
 obtain ⟨hs,hn,hids,hdg⟩:=ep hg;have hul:(cp M.ends.length).length = M.ends.length:=(gw.1 hid).1;have hu0:gi (cp M.ends.length) 0 = ((0:Nat):Int):=Bk (by omega);refine aw Tryz.func36 rfl (by rw [Tryz.ntmps36]; simp) fun w0=>?_;rw [Tryz.ntmps36];have dX:=ja6;simp only [bw,bf,Arg.av,be,b9,ints,ends];refine ab (dR fun K hK=>?_);(repeat refine eV ?_);refine aa (hK _ (wK [2,3] ?_));clear hK K;refine ab ?_;refine ab (dR fun K hK=>?_);(repeat refine eV ?_);refine cL rfl ⟨rfl,_,rfl⟩ (by omega) (by first | exact n9 | exact Ny) (em ⟨false,f.t1,f.o2,f.t2,false,f.t3,false,f.t4⟩ M hids) ?_;rintro _ rfl;(repeat refine eV ?_);have dX:=And.intro dX (@hg);(repeat refine eV ?_);have dX:=And.intro dX (@hg);refine cgF rfl rfl ⟨rfl,_,rfl⟩ (by omega) (by first | exact n9 | exact Ny) (em ⟨false,g.t1,g.o2,g.t2,false,g.t3,false,g.t4⟩ M hids) ?_;rintro _ rfl;(repeat refine eV ?_);have dX:=And.intro dX (@hg);(repeat refine eV ?_);have dX:=And.intro dX (@hg);refine cgF rfl rfl ⟨rfl,_,rfl⟩ (by omega) (by first | exact n9 | exact Ny) (tu ⟨false,f.t1,f.o2,f.t2,false,f.t3,false,f.t4⟩ M hg (show 0 < M.ends.length by omega)) ?_;rintro _ rfl;(repeat refine eV ?_);have dX:=And.intro dX (And.intro @hg @hc);(repeat refine eV ?_);have dK:=And.intro @hg @hc;refine aa (hK _ (au [2,3,21] ?_));clear hK K;refine dI ?_ ?_<;>intro hb
 ·cases hb
 ·refine af ?_;show DW _ _ _ _ _;refine ab (dR fun K hK=>?_);(repeat refine eV ?_);refine aa (hK _ (wK [2,3,6] ?_));clear hK K;refine ab ?_;refine ab (dR fun K hK=>?_);(repeat refine eV ?_);refine aa (hK _ (wK [2,3,6,24,25] ?_));clear hK K;refine ac ?_;refine pm 6 26 1 (by decide) (by simp only [ae,pZ,simprocAttr]) [2,3,6,24,25] (by simp only [ae,pZ,simprocAttr]; exact rfl) ?_;refine ax (X:=Nat) (fun w=>w ≤ M.ends.length) (fun w=>[(25,.c (.p (.int .i64 w)))]) (fun w=>[((6,0),⟨none,[.sl true 26 1 ((if w = 0 then [] else [cp M.ends.length]).map (lsC 3))]⟩)]) (fun w=>M.ends.length - w) 0 (Nat.zero_le _) (by first | rfl | (simp only [ae,pZ,simprocAttr,Int.natCast_zero,if_pos,List.map_nil] <;> rfl)) ?_;rintro w hw;intro E hE;simp only [ae,pZ,simprocAttr] at hE;subst hE;refine ab (dR fun K hK=>?_);(repeat refine eV ?_);refine aa (hK _ (wK [2,3,6,24,25,26] ?_));clear hK K;refine ab (dI (fun hb=>?_) (fun hb=>?_))
  ·have hw1:w < M.ends.length:=by simpa using hb
   refine af ?_;show DW _ _ _ _ _
   by_cases hw0:w = 0
   ·subst hw0;refine ab (ac ?_);rw [if_pos rfl];refine ab (dR fun K hK=>?_);(repeat refine eV ?_);refine aa (hK _ (wK [2,3,6,7,24,25] ?_));clear hK K;refine ab (dR fun K hK=>?_);(repeat refine eV ?_);refine cL rfl ⟨rfl,_,rfl⟩ (by omega) (by first | exact Yl) (Dx ⟨false,f.t1,f.o2,f.t2,false,f.t3,false,f.t4⟩ ⟨false,g.t1,g.o2,g.t2,false,g.t3,false,g.t4⟩ M M 0 (cp M.ends.length) hg hg hw1 hc hid hu0) ?_;rintro _ rfl;(repeat refine eV ?_);refine aa (hK _ (wK [2,3,6,8,24,25] ?_));clear hK K;refine ab (Ov (r:=8) (s:=32) (d:=33) (z:=true) rfl rfl rfl rfl rfl rfl (fun a w val S h=>S9 (t:=3) (k:=1) (rows:=(cp M.ends.length).map iC) h (by simp only [ae,pZ,simprocAttr]) (by simp only [ae,pZ,simprocAttr]) (fun h=>by have h9:=congrArg List.length h; rw [List.length_map,hul,List.length_nil] at h9; omega)) (by rw [Li]; decide) (by rw [Li]; decide) ?_);refine wK [2,3,6,8,24,25,33] ?_;refine dI ?_ ?_<;>intro hb
    ·refine dR fun K hK=>?_;(repeat refine eV ?_);have dK:=@Wf;refine aa (hK _ (au [2,3,6,24,25] ?_));clear hK K;refine dR fun K hK=>?_;(repeat refine eV ?_);have dK:=@bj;refine aa (hK _ ?_);clear hK K;show ∃ x,_ ∧ _ ∧ Weak _ _;refine ⟨1,?_,?_,ay [2,3,6,24,25]⟩
     ·omega
     ·omega
    ·cases hb
   ·refine ab (ac ?_);rw [if_neg hw0];refine ab (dR fun K hK=>?_);(repeat refine eV ?_);refine aa (hK _ (wK [2,3,6,7,24,25] ?_));clear hK K;refine ab (dR fun K hK=>?_);(repeat refine eV ?_);refine cL rfl ⟨rfl,_,rfl⟩ (by omega) (by first | exact Yl) (Gy ⟨false,f.t1,f.o2,f.t2,false,f.t3,false,f.t4⟩ ⟨false,g.t1,g.o2,g.t2,false,g.t3,false,g.t4⟩ M M w hg hg hw1 hc (fun m hm h0=>by rw [hone m hm,hu0] at h0; omega)) ?_;rintro _ rfl;(repeat refine eV ?_);refine aa (hK _ (wK [2,3,6,8,24,25] ?_));clear hK K;refine ab (Ov (r:=8) (s:=32) (d:=33) (z:=false) rfl rfl rfl rfl rfl rfl (fun a w val S h=>Ta h (by simp only [ae,pZ,simprocAttr])) (by rw [Li]; decide) (by rw [Li]; decide) ?_);refine wK [2,3,6,8,24,25,33] ?_;refine dI ?_ ?_<;>intro hb
    ·cases hb
    ·refine af ?_;show DW _ _ _ _ _;have hw2:(if w + 1 = 0 then [] else [cp M.ends.length]) = [cp M.ends.length]:=if_neg (by omega);refine dR fun K hK=>?_;(repeat refine eV ?_);have dK:=And.intro @bj @hw2;refine aa (hK _ ?_);clear hK K;show ∃ x,_ ∧ _ ∧ Weak _ _;refine ⟨w + 1,?_,?_,ay [2,3,6,24,25]⟩
     ·omega
     ·omega
  ·have hw2:¬ w = 0:=by
    have:¬ w < M.ends.length:=by simpa using hb
    omega
   rw [if_neg hw2];refine an ?_;refine wK [6] ?_;refine ab (dR fun K hK=>?_);(repeat refine eV ?_);refine aa (hK _ (wK [4,5] ?_));clear hK K;exact ai (am Tryz.results36 (.two (.own _ _ _ _ rfl rfl (own1 (q8 _ _ [cp M.ends.length]))) (.plain _ _ rfl)) (by decide) rfl)
end Go.Proofs.YtfknckinfcicbaaGreat
