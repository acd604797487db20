/- The program's test for networks: it answers as the reference's does. -/
import Derived.Test.YtfknckinfcicbaaGreatCJn28
import Derived.Laws.StructEq
import Derived.Deep.RegionHeld3
import Derived.Deep.DrawnRows
set_option linter.unusedSimpArgs false
set_option linter.unusedVariables false
namespace Go.Proofs.YtfknckinfcicbaaGreat
open Go.RowKit
attribute [local go_sem] BW.cell BW.frozen
open Go.BigFrame
theorem yk {xs:List Int} {lo hi:Int} (h:wl xs lo hi xs.length):xs.Pairwise (· < ·):=by
 rw [List.pairwise_iff_getElem];intro i j hi hj hij
 have key:∀ d i,i + d + 1 < xs.length → gi xs i < gi xs (i + d + 1):=by
  intro d
  induction d with
  | zero=>intro i h1; exact (h (i + 1) (by omega)).2 (by omega)
  | succ d ih =>
   intro i h1;have h2:=ih i (by omega);have h3:=(h (i + d + 1 + 1) (by omega)).2 (by omega);have h4:i + (d + 1) + 1 = i + d + 1 + 1:=by omega
   rw [h4];have h5:i + d + 1 + 1 - 1 = i + d + 1:=by omega
   rw [h5] at h3;omega
 have:=key (j - i - 1) i (by omega);rw [show i + (j - i - 1) + 1 = j by omega,bt hi,bt hj] at this;exact this
theorem mh (xs:List Int):(sorted xs).Perm xs:=List.mergeSort_perm ..
theorem Ph (xs:List Int):(sorted xs).Pairwise (· ≤ ·):=by
 have:=List.pairwise_mergeSort (le:=fun x y:Int=>decide (x ≤ y)) (by intro a b c h1 h2; simp at *; omega) (by intro a b; simp; omega) xs;exact this.imp (by intro a b h; simpa using h)
theorem rf {xs:List Int}:xs.Nodup ↔ ∀ i,i < xs.length → nk (xs.take i) (gi xs i) = false:=by
 constructor
 ·intro h i hi;rw [← Bool.not_eq_true,gn];intro hm;obtain ⟨k,hk,e⟩:=List.getElem_of_mem hm;have hk':k < i:=by simp at hk; omega
  rw [List.getElem_take] at e;rw [bt hi] at e;exact List.pairwise_iff_getElem.1 (List.nodup_iff_pairwise_ne.1 h) k i (by omega) hi hk' e
 ·intro h;rw [List.nodup_iff_pairwise_ne,List.pairwise_iff_getElem];intro i j hi hj hij e;have:=h j hj;rw [← Bool.not_eq_true,gn] at this;apply this;rw [bt hj,← e];have:(xs.take j)[i]'(by simp; omega) = xs[i]:=List.getElem_take;rw [← this];exact List.getElem_mem _
theorem Sy (xs:List Int):zj (sorted xs) 1 999999 = true ↔ ∀ i,i < xs.length → inB (gi xs i) 1 999999 = true ∧ nk (xs.take i) (gi xs i) = false:=by
 rw [yc];constructor
 ·intro h;have hnd:xs.Nodup:=(mh xs).nodup_iff.1 ((yk h).imp (by intro a b h; omega));intro i hi;refine ⟨?_,rf.1 hnd i hi⟩;have hm:gi xs i ∈ sorted xs:=(mh xs).mem_iff.2 (by rw [bt hi]; exact List.getElem_mem hi);obtain ⟨k,hk,e⟩:=List.getElem_of_mem hm;have:=(h k hk).1;rwa [bt hk,e] at this
 ·intro h i hi;have hnd:(sorted xs).Nodup:=(mh xs).nodup_iff.2 (rf.2 fun i hi=>(h i hi).2);refine ⟨?_,fun h0=>?_⟩
  ·have hm:gi (sorted xs) i ∈ xs:=(mh xs).mem_iff.1 (by rw [bt hi]; exact List.getElem_mem hi);obtain ⟨k,hk,e⟩:=List.getElem_of_mem hm;have:=(h k hk).1;rwa [bt hk,e] at this
  ·have h1:=List.pairwise_iff_getElem.1 (Ph xs) (i - 1) i (by omega) hi (by omega);have h2:=List.pairwise_iff_getElem.1 hnd (i - 1) i (by omega) hi (by omega);rw [bt (by omega),bt hi];omega
theorem E6 (xs:List Int) (n:Int):rn xs n = w9 xs n:=by
 rw [Bool.eq_iff_iff];simp only [rn,w9,Bool.or_eq_true,Bool.and_eq_true,Sy,decide_eq_true_eq,beq_iff_eq];constructor
 ·rintro (h | ⟨h1,h2⟩)
  ·exact ⟨fun i hi=>absurd hi (by omega),.inl h⟩
  ·exact ⟨h2,.inr h1⟩
 ·rintro ⟨h1,h2 | h2⟩
  ·exact .inl h2
  ·exact .inr ⟨h2,h1⟩
set_option maxRecDepth 100000 in
set_option maxHeartbeats 2000000 in
theorem D4 {S:Nat → Prop} (v:Value) (N:Net) (w:World) (h:NetR w S v N) (hsh:N.ids.length ≤ 2097152) :
 Calls Tryz.prog 40 #[v] w (tg w (.bool (bg N))):=by
 have HNR:=Lib.hid h;obtain ⟨ve,vi,vn,rfl,he,hi,hn⟩:=h;have hi':=hi;have hn':=hn;obtain ⟨A1,c1,rfl,hl1,hm1,-⟩:=hi';obtain ⟨A2,c2,rfl,hl2,hm2,-⟩:=hn';obtain ⟨A,c,rfl,hnc,hm,hx⟩:=he;unfold maxLen at hm1 hm2 hm;have hb0:∀ o1,Below w.heap.size w (w.alloc o1):=fun o1=>(Below.refl _ _).alloc (Nat.le_refl _) _;have HB0:=Lib.hid hb0;have HI:=Lib.hid hi;have HN:=Lib.hid hn;have HX:=Lib.hid hx;clear hi hn hx hb0;have CI:=fun n=>Lib.hid (fun (W:World) (hW:Below w.heap.size w W)=>Qp _ N.ids n W (HI.out.below hW) hsh);have CN:=fun n=>Lib.hid (fun (W:World) (hW:Below w.heap.size w W)=>Gr _ N.inputs n W (HN.out.below hW));cases h1:inB (N.ends.length:Int) 1 40
 ·have HT:Hid (bg N = false):=dy fun h=>by have:=h.1; rw [h1] at this; cases this
  have H1:=Lib.hid h1;clear h1
  go_enter Tryz.func40,Tryz.ntmps40
  go_wp2_with (go_at_call 47; refine (d8 _ _ _ _).mono ?_; rintro e w1 ⟨rfl,rfl⟩; rw [H1.out])
  go_ret
  exact ⟨by rw [HT.out]; rfl,HB0.out _⟩
 have hle:=(db.1 h1).2;have hge:=(db.1 h1).1;have H1:=Lib.hid h1;clear h1;cases h2:rn N.ids (N.ends.length:Int)
 ·have HT:Hid (bg N = false):=dy fun h=>by have:=h.2.1; rw [← E6,h2] at this; cases this
  have H2:=Lib.hid h2;clear h2
  go_enter Tryz.func40,Tryz.ntmps40
  go_wp2_with (first | (go_at_call 47; refine (d8 _ _ _ _).mono ?_; rintro e w1 ⟨rfl,rfl⟩; rw [H1.out]) | (go_at_call 93; refine ((CI _).out _ (HB0.out _)).mono ?_; rintro e w1 ⟨rfl,hb1⟩; rw [H2.out]; have HB1:=Lib.hid (Below.then_ (HB0.out _) hb1); clear hb1))
  go_ret
  exact ⟨by rw [HT.out]; rfl,HB1.out⟩
 have H2:=Lib.hid h2;clear h2;cases h4:((N.inputs.length:Int) == (N.ends.length:Int) && qq N.inputs 0 9)
 ·have HT:Hid (bg N = false):=dy fun h=>by have h3:=h.2.2.1; have h5:=h.2.2.2.1; rw [h3,h5] at h4; simp at h4
  have H4:=Lib.hid h4;clear h4
  go_enter Tryz.func40,Tryz.ntmps40
  go_wp2_with fail
  refine (d8 _ _ _ _).mono ?_;rintro e w1 ⟨rfl,rfl⟩;rw [H1.out]
  go_wp2_with fail
  refine ((CI _).out _ (HB0.out _)).mono ?_;rintro e w1 ⟨rfl,hb1⟩;rw [H2.out];have k1:=jbd hb1;have HB1:=Lib.hid (Below.then_ (HB0.out _) hb1);clear hb1
  go_wp2_with fail
  refine ((CN _).out _ HB1.out).mono ?_;rintro e w2 ⟨rfl,hb2⟩;rw [H4.out];have HB2:=Lib.hid (Below.then_ HB1.out hb2);clear hb2
  go_wp2_with fail
  go_ret
  exact ⟨by rw [HT.out]; rfl,HB2.out⟩
 have H3:Hid (N.inputs.length = N.ends.length):=by
  simp only [Bool.and_eq_true,beq_iff_eq] at h4;exact Int.ofNat.inj h4.1
 have H5:Hid (qq N.inputs 0 9 = true):=by
  simp only [Bool.and_eq_true] at h4;exact h4.2
 have H4:=Lib.hid h4;clear h4
 go_enter Tryz.func40,Tryz.ntmps40
 go_wp2_with fail
 refine (d8 _ _ _ _).mono ?_;rintro e w1 ⟨rfl,rfl⟩;rw [H1.out]
 go_wp2_with fail
 refine ((CI _).out _ (HB0.out _)).mono ?_;rintro e w1 ⟨rfl,hb1⟩;rw [H2.out];have k1:=jbd hb1;have K1:=Lib.hid (Blk.below (Blk.new w _ _) hb1);have HB1:=Lib.hid (Below.then_ (HB0.out _) hb1);clear hb1
 go_wp2_with fail
 refine ((CN _).out _ HB1.out).mono ?_;rintro e w2 ⟨rfl,hb2⟩;rw [H4.out];have K2:=Lib.hid (K1.out.below hb2);have HB2:=Lib.hid (Below.then_ HB1.out hb2);clear hb2 k1;have k2:=K2.out.cell
 go_wp2_with fail
 clear k2 CI CN
 go_loopw [33] (fun i wr=>∃ k:Nat,k ≤ N.ends.length ∧ i = .int .i64 k ∧ (∀ j,j < k → Sw N j) ∧ Blk wr w.heap.size 31 #[.slice A N.ends.length c,.slice A1 N.ids.length c1,.slice A2 N.inputs.length c2] ∧ Below w.heap.size w wr)
  (fun i _=>N.ends.length - (intOf i).toNat)
 case atStart=>exact ⟨0,Nat.zero_le _,rfl,fun j hj=>absurd hj (Nat.not_lt_zero _),K2.out,HB2.out⟩
 case round =>
  clear HB1 HB2 K1 K2;obtain ⟨wo,rfl⟩:∃ wo:World,wo = wr:=⟨_,rfl⟩;obtain ⟨k,hk,rfl,hs,hblk,hbel⟩:=hrel;have HS:=Lib.hid hs;clear hs
  by_cases hlt:k < N.ends.length
  ·obtain ⟨b,off,rfl,-,hc⟩:=HX.out (by omega);obtain ⟨u,hu,A',c',rfl,hn',hm',hc'⟩:=hc k hlt;unfold maxLen at hm';have hcell:wo.cell? ⟨b,off + k,none⟩ = some (.slice A' (gl N.ends k).length c'):=by rw [hbel.cell (by exact a8 hu)]; exact hu
   have HC:=Lib.hid hc;have HC':=Lib.hid hc';have HBL:=Lib.hid hblk;have HB:=Lib.hid hbel;clear hc hc' hblk hbel hu
   by_cases h6:(gl N.ends k).length ≤ 6
   case neg =>
    have HT:Hid (bg N = false):=dy fun h=>h6 (h.2.2.2.2 k hlt).1
    go_wp2
    go_ret
    exact ⟨by rw [HT.out]; rfl,HB.out⟩
   go_wp2
   go_loopw [43] (fun i wr2=>∃ j:Nat,j ≤ (gl N.ends k).length ∧ i = .int .i64 j ∧ (∀ i,i < j → tw N k i) ∧ Blk wr2 w.heap.size 31 #[.slice (some ⟨b,off,none⟩) N.ends.length c,.slice A1 N.ids.length c1,.slice A2 N.inputs.length c2] ∧ Below w.heap.size w wr2)
    (fun i _=>(gl N.ends k).length - (intOf i).toNat)
   case atStart=>exact ⟨0,Nat.zero_le _,rfl,fun j hj=>absurd hj (Nat.not_lt_zero _),HBL.out,HB.out⟩
   case round =>
    obtain ⟨j,hj,rfl,hs2,hblk2,hbel2⟩:=hrel;have HS2:=Lib.hid hs2;clear hs2
    by_cases hlt2:j < (gl N.ends k).length
    ·obtain ⟨b',off',rfl,-,hcc⟩:=HC'.out (by omega);obtain ⟨hc1,hc2⟩:=hcc j hlt2;have hd1:wr.cell? ⟨b',off' + j * 2,none⟩ = some (.int .i64 (gp (gl N.ends k) j).1):=by rw [hbel2.cell (by exact a8 hc1)]; exact hc1
     have hd2:wr.cell? ⟨b',off' + j * 2 + 1,none⟩ = some (.int .i64 (gp (gl N.ends k) j).2):=by rw [hbel2.cell (by exact a8 hc1)]; exact hc2
     have hcb:=hblk2.cell;have hz1:w.heap.size < wr.heap.size:=hblk2.lt;have hz2:b' < wr.heap.size:=a8 hd1;have hz1':w.heap.size < wr.heap.size + 1:=by omega
     have hz2':b' < wr.heap.size + 1:=by omega
     have HBK:=Lib.hid hblk2;have HB2:=Lib.hid hbel2;have hEO:tw N k j ↔ G1 N k j (gp (gl N.ends k) j).1 (gp (gl N.ends k) j).2:=Iff.rfl;obtain ⟨a,ha⟩:∃ a,a = (gp (gl N.ends k) j).1:=⟨_,rfl⟩;obtain ⟨p,hp⟩:∃ p,p = (gp (gl N.ends k) j).2:=⟨_,rfl⟩;rw [← ha,← hp] at hEO;rw [← ha] at hd1;rw [← hp] at hd2;have HEO:=Lib.hid hEO;clear hcc hc1 hc2 hEO ha hp;have hgone:¬ tw N k j → bg N = false:=fun h=>dy fun h'=>h ((h'.2.2.2.2 k hlt).2 j hlt2);have HGN:=Lib.hid hgone;clear hgone;have CP:=Lib.hid (fun (W:World) (hW:Below w.heap.size w W)=>Jd _ N a p W (HNR.out.below hW));cases e1:zn N a p
     ·have HT:Hid (bg N = false):=HGN.out fun h=>by
       have:=HEO.out.1 h;simp only [zn,this.1,this.2.1] at e1;cases e1
      have E1:=Lib.hid (fun W hW=>by have:=CP.out W hW; rw [e1] at this; exact this);clear hbel2 hblk2 e1 CP
      go_wp2_with fail
      refine ik (by kernel_rfl) (by kernel_rfl) ?_
      repeat (go_big_quiet_step ((go_at_call 95; exact F9 (E1.out _ (Below.thenB (HB2.out.alloc HB2.out.size _) (BW.h _) (HB2.out.alloc HB2.out.size _).size)))))
      refine wpQuiet_nil ?_;rintro _ ⟨x,rfl⟩;have HX2:=Lib.hid (Below.thenB (HB2.out.alloc HB2.out.size _) x.h (HB2.out.alloc HB2.out.size _).size)
      go_wp2_with fail
      go_ret
      exact ⟨by rw [HT.out]; rfl,HX2.out⟩
     ·have E1:=Lib.hid (fun W hW=>by have:=CP.out W hW; rw [e1] at this; exact this);have e1':=e1;simp only [zn,Bool.and_eq_true] at e1';obtain ⟨e2,e3⟩:=e1';obtain ⟨hp1,hp2⟩:=db.1 e2;have hat:a.toNat < N.ends.length:=by omega
      obtain ⟨u2,hu2,A3,c3,rfl,hn3,hm3,hc3⟩:=HC.out a.toNat hat;unfold maxLen at hm3;have hd3:wr.cell? ⟨b,off + a.toNat,none⟩ = some (.slice A3 (gl N.ends a.toNat).length c3):=by rw [hbel2.cell (by exact a8 hu2)]; exact hu2
      have hz3:b < wr.heap.size:=a8 hd3;have hz3':b < wr.heap.size + 1:=by omega
      obtain ⟨hq1,hq2⟩:=db.1 e3;have hpt:p.toNat < (gl N.ends a.toNat).length:=by omega
      obtain ⟨b3,off3,rfl,-,hc3'⟩:=hc3 (by omega);obtain ⟨hy1,hy2⟩:=hc3' p.toNat hpt;have hd4:wr.cell? ⟨b3,off3 + p.toNat * 2,none⟩ = some (.int .i64 (gp (gl N.ends a.toNat) p.toNat).1):=by rw [hbel2.cell (by exact a8 hy1)]; exact hy1
      have hd5:wr.cell? ⟨b3,off3 + p.toNat * 2 + 1,none⟩ = some (.int .i64 (gp (gl N.ends a.toNat) p.toNat).2):=by rw [hbel2.cell (by exact a8 hy1)]; exact hy2
      have hz4:b3 < wr.heap.size:=a8 hd4;have hz4':b3 < wr.heap.size + 1:=by omega
      clear hc3 hc3' hy1 hy2 hbel2 hblk2 CP e1
      by_cases e4:gp (gl N.ends a.toNat) p.toNat = ((k:Int),(j:Int))
      ·have HOK:Hid (tw N k j):=HEO.out.2 ⟨e2,e3,e4⟩;rw [e4] at hd4 hd5;clear e4 e2 e3
       go_wp2_with fail
       refine ik (by kernel_rfl) (by kernel_rfl) ?_
       repeat (go_big_quiet_step ((go_at_call 95; exact F9 (E1.out _ (Below.thenB (HB2.out.alloc HB2.out.size _) (BW.h _) (HB2.out.alloc HB2.out.size _).size)))))
       refine wpQuiet_nil ?_;rintro _ ⟨x,rfl⟩;have HX2:=Lib.hid (Below.thenB (HB2.out.alloc HB2.out.size _) x.h (HB2.out.alloc HB2.out.size _).size);have HBK2:=Lib.hid ((HBK.out.alloc _).below x.h)
       go_wp2_with fail
       go_roundw
       case rel =>
        refine ⟨j + 1,by omega,by go_num,fun i hi=>?_,HBK2.out,HX2.out⟩
        by_cases h1:i = j
        ·subst h1; exact HOK.out
        ·exact HS2.out i (by omega)
       case measure=>simp [intOf]; omega
      ·have HT:Hid (bg N = false):=HGN.out fun h=>e4 (HEO.out.1 h).2.2;obtain ⟨x,y,hxy⟩:∃ x y,gp (gl N.ends a.toNat) p.toNat = (x,y):=⟨_,_,rfl⟩;rw [hxy] at hd4 hd5 e4;clear hxy e2 e3
       by_cases e5:x = (k:Int)
       ·have e6:¬ y = (j:Int):=fun h=>e4 (by rw [e5,h]);rw [e5] at hd4;clear e4 e5
        go_wp2_with fail
        refine ik (by kernel_rfl) (by kernel_rfl) ?_
        repeat (go_big_quiet_step ((go_at_call 95; exact F9 (E1.out _ (Below.thenB (HB2.out.alloc HB2.out.size _) (BW.h _) (HB2.out.alloc HB2.out.size _).size)))))
        refine wpQuiet_nil ?_;rintro _ ⟨z,rfl⟩;have HX2:=Lib.hid (Below.thenB (HB2.out.alloc HB2.out.size _) z.h (HB2.out.alloc HB2.out.size _).size)
        go_wp2_with fail
        go_ret
        exact ⟨by rw [HT.out]; rfl,HX2.out⟩
       ·clear e4
        go_wp2_with fail
        refine ik (by kernel_rfl) (by kernel_rfl) ?_
        repeat (go_big_quiet_step ((go_at_call 95; exact F9 (E1.out _ (Below.thenB (HB2.out.alloc HB2.out.size _) (BW.h _) (HB2.out.alloc HB2.out.size _).size)))))
        refine wpQuiet_nil ?_;rintro _ ⟨z,rfl⟩;have HX2:=Lib.hid (Below.thenB (HB2.out.alloc HB2.out.size _) z.h (HB2.out.alloc HB2.out.size _).size)
        go_wp2_with fail
        go_ret
        exact ⟨by rw [HT.out]; rfl,HX2.out⟩
    ·go_wp2
     go_roundw
     case rel =>
      refine ⟨k + 1,by omega,by go_num,fun i hi=>?_,hblk2,hbel2⟩
      by_cases h1:i = k
      ·subst h1; exact ⟨h6,fun i hi=>HS2.out i (by omega)⟩
      ·exact HS.out i (by omega)
     case measure=>simp [intOf]; omega
  ·have HT:Hid (bg N = true):=fm.2 ⟨H1.out,by rw [← E6]; exact H2.out,H3.out,H5.out,fun j hj=>HS.out j (by omega)⟩
   go_wp2
   go_ret
   exact ⟨by rw [HT.out]; rfl,hbel⟩
end Go.Proofs.YtfknckinfcicbaaGreat
