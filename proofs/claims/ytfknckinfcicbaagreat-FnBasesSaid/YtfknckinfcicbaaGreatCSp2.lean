/- The reference's test for networks. -/
import Derived.Test.YtfknckinfcicbaaGreatCJn9
import Derived.Laws.StructEq
set_option linter.unusedSimpArgs false
set_option linter.unusedVariables false
namespace Go.Proofs.YtfknckinfcicbaaGreat
open Go.RowKit
set_option maxRecDepth 100000 in
set_option maxHeartbeats 2000000 in
theorem Lg {S:Nat → Prop} (v:Value) (N:Net) (w:World) (h:NetR w S v N) :
 Calls Tryz.prog 43 #[v] w (tg w (.bool (bg N))):=by
 obtain ⟨ve,vi,vn,rfl,he,hi,hn⟩:=h;have hbn:=hn.bound;have hi':=hi;have hn':=hn;obtain ⟨A1,c1,rfl,hl1,hm1,-⟩:=hi';obtain ⟨A2,c2,rfl,hl2,hm2,-⟩:=hn';obtain ⟨A,c,rfl,hnc,hm,hx⟩:=he;unfold maxLen at hm1 hm2 hm;have hb0:∀ o1,Below w.heap.size w (w.alloc o1):=fun o1=>(Below.refl _ _).alloc (Nat.le_refl _) _;have HB0:=Lib.hid hb0;have HI:=Lib.hid hi;have HN:=Lib.hid hn;have HX:=Lib.hid hx;clear hi hn hx hb0;have CI:=fun n=>Lib.hid (fun (W:World) (hW:Below w.heap.size w W)=>Qe _ N.ids n W (HI.out.below hW));have CN:=Lib.hid (fun (W:World) (hW:Below w.heap.size w W)=>E4 _ N.inputs 0 9 W (HN.out.below hW));cases h1:inB (N.ends.length:Int) 1 40
 ·have HT:Hid (bg N = false):=dy fun h=>by have:=h.1; rw [h1] at this; cases this
  have H1:=Lib.hid h1;clear h1
  go_enter Tryz.func43,Tryz.ntmps43
  go_wp2_with (go_at_call 97; refine (eo _ _ _ _).mono ?_; rintro e w1 ⟨rfl,rfl⟩; rw [H1.out])
  go_ret
  exact ⟨by rw [HT.out]; rfl,HB0.out _⟩
 have hle:=(db.1 h1).2;have hge:=(db.1 h1).1;have H1:=Lib.hid h1;clear h1;cases h2:w9 N.ids (N.ends.length:Int)
 ·have HT:Hid (bg N = false):=dy fun h=>by have:=h.2.1; rw [h2] at this; cases this
  have H2:=Lib.hid h2;clear h2
  go_enter Tryz.func43,Tryz.ntmps43
  go_wp2_with (first | (go_at_call 97; refine (eo _ _ _ _).mono ?_; rintro e w1 ⟨rfl,rfl⟩; rw [H1.out]) | (go_at_call 98; refine ((CI _).out _ (HB0.out _)).mono ?_; rintro e w1 ⟨rfl,rfl⟩; rw [H2.out]))
  go_ret
  exact ⟨by rw [HT.out]; rfl,HB0.out _⟩
 have H2:=Lib.hid h2;clear h2
 by_cases h3:N.inputs.length = N.ends.length
 case neg =>
  have HT:Hid (bg N = false):=dy fun h=>h3 h.2.2.1;have e3:(((N.inputs.length:Nat):Int) != ((N.ends.length:Nat):Int)) = true:=by simp; omega
  clear h3
  go_enter Tryz.func43,Tryz.ntmps43
  go_wp2_with (first | (go_at_call 97; refine (eo _ _ _ _).mono ?_; rintro e w1 ⟨rfl,rfl⟩; rw [H1.out]) | (go_at_call 98; refine ((CI _).out _ (HB0.out _)).mono ?_; rintro e w1 ⟨rfl,rfl⟩; rw [H2.out]))
  go_ret
  exact ⟨by rw [HT.out]; rfl,HB0.out _⟩
 have H3:=Lib.hid h3;have e3:(((N.inputs.length:Nat):Int) != ((N.ends.length:Nat):Int)) = false:=by simp [h3]
 clear h3;cases h4:qq N.inputs 0 9
 ·have HT:Hid (bg N = false):=dy fun h=>by have:=h.2.2.2.1; rw [h4] at this; cases this
  have H4:=Lib.hid h4;clear h4
  go_enter Tryz.func43,Tryz.ntmps43
  go_wp2_with (first | (go_at_call 97; refine (eo _ _ _ _).mono ?_; rintro e w1 ⟨rfl,rfl⟩; rw [H1.out]) | (go_at_call 98; refine ((CI _).out _ (HB0.out _)).mono ?_; rintro e w1 ⟨rfl,rfl⟩; rw [H2.out]) | (go_at_call 80; refine (CN.out _ (HB0.out _)).mono ?_; rintro e w1 ⟨rfl,rfl⟩; rw [H4.out]))
  go_ret
  exact ⟨by rw [HT.out]; rfl,HB0.out _⟩
 have H4:=Lib.hid h4;clear h4
 go_enter Tryz.func43,Tryz.ntmps43
 go_wp2_with (first | (go_at_call 97; refine (eo _ _ _ _).mono ?_; rintro e w1 ⟨rfl,rfl⟩; rw [H1.out]) | (go_at_call 98; refine ((CI _).out _ (HB0.out _)).mono ?_; rintro e w1 ⟨rfl,rfl⟩; rw [H2.out]) | (go_at_call 80; refine (CN.out _ (HB0.out _)).mono ?_; rintro e w1 ⟨rfl,rfl⟩; rw [H4.out]))
 clear e3 CI CN
 go_loopw [39] (fun i wr=>∃ k:Nat,k ≤ N.ends.length ∧ i = .int .i64 k ∧ (∀ j,j < k → Sw N j) ∧ Blk wr w.heap.size 31 #[.slice A N.ends.length c,.slice A1 N.ids.length c1,.slice A2 N.inputs.length c2] ∧ Below w.heap.size w wr)
  (fun i _=>N.ends.length - (intOf i).toNat)
 case atStart=>exact ⟨0,Nat.zero_le _,rfl,fun j hj=>absurd hj (Nat.not_lt_zero _),Blk.new _ _ _,HB0.out _⟩
 case round =>
  obtain ⟨wo,rfl⟩:∃ wo:World,wo = wr:=⟨_,rfl⟩;obtain ⟨k,hk,rfl,hs,hblk,hbel⟩:=hrel;have HS:=Lib.hid hs;clear hs
  by_cases hlt:k < N.ends.length
  ·obtain ⟨b,off,rfl,-,hc⟩:=HX.out (by omega);obtain ⟨u,hu,A',c',rfl,hn',hm',hc'⟩:=hc k hlt;unfold maxLen at hm';have hcell:wo.cell? ⟨b,off + k,none⟩ = some (.slice A' (gl N.ends k).length c'):=by rw [hbel.cell (by exact a8 hu)]; exact hu
   have HC:=Lib.hid hc;have HC':=Lib.hid hc';have HBL:=Lib.hid hblk;have HB:=Lib.hid hbel;clear hc hc' hblk hbel hu
   by_cases h6:(gl N.ends k).length ≤ 6
   case neg =>
    have HT:Hid (bg N = false):=dy fun h=>h6 (h.2.2.2.2 k hlt).1
    go_wp2
    go_ret
    exact ⟨by rw [HT.out]; rfl,HB.out⟩
   go_wp2
   go_loopw [49] (fun i wr2=>∃ j:Nat,j ≤ (gl N.ends k).length ∧ i = .int .i64 j ∧ (∀ i,i < j → tw N k i) ∧ Blk wr2 w.heap.size 31 #[.slice (some ⟨b,off,none⟩) N.ends.length c,.slice A1 N.ids.length c1,.slice A2 N.inputs.length c2] ∧ Below w.heap.size w wr2)
    (fun i _=>(gl N.ends k).length - (intOf i).toNat)
   case atStart=>exact ⟨0,Nat.zero_le _,rfl,fun j hj=>absurd hj (Nat.not_lt_zero _),HBL.out,HB.out⟩
   case round =>
    obtain ⟨j,hj,rfl,hs2,hblk2,hbel2⟩:=hrel;have HS2:=Lib.hid hs2;clear hs2
    by_cases hlt2:j < (gl N.ends k).length
    ·obtain ⟨b',off',rfl,-,hcc⟩:=HC'.out (by omega);obtain ⟨hc1,hc2⟩:=hcc j hlt2;have hd1:wr.cell? ⟨b',off' + j * 2,none⟩ = some (.int .i64 (gp (gl N.ends k) j).1):=by rw [hbel2.cell (by exact a8 hc1)]; exact hc1
     have hd2:wr.cell? ⟨b',off' + j * 2 + 1,none⟩ = some (.int .i64 (gp (gl N.ends k) j).2):=by rw [hbel2.cell (by exact a8 hc1)]; exact hc2
     have hcb:=hblk2.cell;have hz1:w.heap.size < wr.heap.size:=hblk2.lt;have hz2:b' < wr.heap.size:=a8 hd1;have hw1:IntKind.i64.wrap ((N.ends.length:Int) - 1) = (N.ends.length:Int) - 1:=IntWalk.i64_in _ (by omega);have HBK:=Lib.hid hblk2;have HB2:=Lib.hid hbel2;have hEO:tw N k j ↔ G1 N k j (gp (gl N.ends k) j).1 (gp (gl N.ends k) j).2:=Iff.rfl;obtain ⟨a,ha⟩:∃ a,a = (gp (gl N.ends k) j).1:=⟨_,rfl⟩;obtain ⟨p,hp⟩:∃ p,p = (gp (gl N.ends k) j).2:=⟨_,rfl⟩;rw [← ha,← hp] at hEO;rw [← ha] at hd1;rw [← hp] at hd2;have HEO:=Lib.hid hEO;clear hcc hc1 hc2 hEO ha hp;have hgone:¬ tw N k j → bg N = false:=fun h=>dy fun h'=>h ((h'.2.2.2.2 k hlt).2 j hlt2);have HGN:=Lib.hid hgone;clear hgone;cases e1:inB a 0 ((N.ends.length:Int) - 1)
     ·have HT:Hid (bg N = false):=HGN.out fun h=>by have:=(HEO.out.1 h).1; rw [e1] at this; cases this
      clear hbel2 hblk2
      go_wp2
      go_quiet ((go_at_call 97; exact Bx (eo _ _ _ _)))
      go_wp2
      go_ret
      exact ⟨by rw [HT.out]; rfl,i7 (HB2.out.alloc HB2.out.size _) _⟩
     ·obtain ⟨hp1,hp2⟩:=db.1 e1;have hat:a.toNat < N.ends.length:=by omega
      obtain ⟨u2,hu2,A3,c3,rfl,hn3,hm3,hc3⟩:=HC.out a.toNat hat;unfold maxLen at hm3;have hd3:wr.cell? ⟨b,off + a.toNat,none⟩ = some (.slice A3 (gl N.ends a.toNat).length c3):=by rw [hbel2.cell (by exact a8 hu2)]; exact hu2
      have hz3:b < wr.heap.size:=a8 hd3;have hw2:IntKind.i64.wrap (((gl N.ends a.toNat).length:Int) - 1) = ((gl N.ends a.toNat).length:Int) - 1:=IntWalk.i64_in _ (by omega);cases e2:inB p 0 (((gl N.ends a.toNat).length:Int) - 1)
      ·have HT:Hid (bg N = false):=HGN.out fun h=>by have:=(HEO.out.1 h).2.1; rw [e2] at this; cases this
       clear hbel2 hblk2 hc3
       go_wp2
       go_quiet ((go_at_call 97; exact Bx (eo _ _ _ _)))
       go_wp2
       go_ret
       exact ⟨by rw [HT.out]; rfl,i7 (HB2.out.alloc HB2.out.size _) _⟩
      ·obtain ⟨hq1,hq2⟩:=db.1 e2;have hpt:p.toNat < (gl N.ends a.toNat).length:=by omega
       obtain ⟨b3,off3,rfl,-,hc3'⟩:=hc3 (by omega);obtain ⟨hy1,hy2⟩:=hc3' p.toNat hpt;have hd4:wr.cell? ⟨b3,off3 + p.toNat * 2,none⟩ = some (.int .i64 (gp (gl N.ends a.toNat) p.toNat).1):=by rw [hbel2.cell (by exact a8 hy1)]; exact hy1
       have hd5:wr.cell? ⟨b3,off3 + p.toNat * 2 + 1,none⟩ = some (.int .i64 (gp (gl N.ends a.toNat) p.toNat).2):=by rw [hbel2.cell (by exact a8 hy1)]; exact hy2
       have hz4:b3 < wr.heap.size:=a8 hd4;clear hc3 hc3' hy1 hy2 hbel2 hblk2
       by_cases e3:gp (gl N.ends a.toNat) p.toNat = ((k:Int),(j:Int))
       ·have HOK:Hid (tw N k j):=HEO.out.2 ⟨e1,e2,e3⟩;rw [e3] at hd4 hd5;clear e3
        go_wp2
        go_quiet ((go_at_call 97; exact Bx (eo _ _ _ _)))
        go_wp2
        go_roundw
        case rel =>
         refine ⟨j + 1,by omega,by go_num,fun i hi=>?_,HBK.out.alloc _,i7 (HB2.out.alloc HB2.out.size _) _⟩
         by_cases h1:i = j
         ·subst h1; exact HOK.out
         ·exact HS2.out i (by omega)
        case measure=>simp [intOf]; omega
       ·have HT:Hid (bg N = false):=HGN.out fun h=>e3 (HEO.out.1 h).2.2;obtain ⟨x,y,hxy⟩:∃ x y,gp (gl N.ends a.toNat) p.toNat = (x,y):=⟨_,_,rfl⟩;rw [hxy] at hd4 hd5 e3;clear hxy
        by_cases e4:x = (k:Int)
        ·have e5:¬ y = (j:Int):=fun h=>e3 (by rw [e4,h]);rw [e4] at hd4;clear e3 e4
         go_wp2
         go_quiet ((go_at_call 97; exact Bx (eo _ _ _ _)))
         go_wp2
         go_ret
         exact ⟨by rw [HT.out]; rfl,i7 (HB2.out.alloc HB2.out.size _) _⟩
        ·clear e3
         go_wp2
         go_quiet ((go_at_call 97; exact Bx (eo _ _ _ _)))
         go_wp2
         go_ret
         exact ⟨by rw [HT.out]; rfl,i7 (HB2.out.alloc HB2.out.size _) _⟩
    ·go_wp2
     go_roundw
     case rel =>
      refine ⟨k + 1,by omega,by go_num,fun i hi=>?_,hblk2,hbel2⟩
      by_cases h1:i = k
      ·subst h1; exact ⟨h6,fun i hi=>HS2.out i (by omega)⟩
      ·exact HS.out i (by omega)
     case measure=>simp [intOf]; omega
  ·have HT:Hid (bg N = true):=fm.2 ⟨H1.out,H2.out,H3.out,H4.out,fun j hj=>HS.out j (by omega)⟩
   go_wp2
   go_ret
   exact ⟨by rw [HT.out]; rfl,hbel⟩
end Go.Proofs.YtfknckinfcicbaaGreat
