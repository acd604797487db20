/- The program's viewClasses. Printed by gen_vca.py. -/
import Derived.Test.YtfknckinfcicbaaGreatCJn16
import Derived.Test.YtfknckinfcicbaaGreatCJn9
import Derived.Test.YtfknckinfcicbaaGreatCPh
import Derived.Deep.DeepCutAuto
import Derived.Maps.OwnOps
set_option linter.unusedSimpArgs false
set_option linter.unusedVariables false
namespace Go.Proofs.YtfknckinfcicbaaGreat
open Go.RowKit Go.Maps
def jds (w:World) (S:Nat → Prop) (cv:Value) (co:Option (List Int)) (n:Nat):Prop:=match co with
 | none=>cv = .slice none 0 0
 | some c=>IntsR w S cv c ∧ c.length = n ∧ ∀ x ∈ c,0 ≤ x ∧ x ≤ 1048576
theorem LowB.cell' {B:Nat} {w w':World} (h:LowB B w w') {b o:Nat} (hp:b < B):w'.cell? ⟨b,o,none⟩ = w.cell? ⟨b,o,none⟩:=World.cell?_of_block (h.block b hp)
theorem LowB.weak' {B B':Nat} {w w':World} (h:LowB B w w') (hB:B' ≤ B):LowB B' w w':=⟨h.os,h.tape,h.output,h.size,fun k hk=>h.block k (by omega)⟩
set_option maxRecDepth 100000 in
set_option maxHeartbeats 8000000 in
theorem qe {S S':Nat → Prop} (u cv:Value) (N:Net) (co:Option (List Int)) (w:World) (h:NetR w S u N) (hf:Fine N) (hin:N.inputs.length = N.ends.length) (hl:N.ends.length ≤ 1000) (hp:0 < N.ends.length) (hc:jds w S' cv co N.ends.length) :
 Calls Tryz.prog 96 #[u,cv] w (Vs w (rz (en N co) N.ends.length)):=by
 have HFI:=Lib.hid hf;have HD:=Lib.hid hf.deg;have HCL:=Lib.hid hc;have HIN:=Lib.hid hin;have hN0:=h;obtain ⟨ve,vi,vn,rfl,he,hi,hn⟩:=h;obtain ⟨A,c,rfl,-,hmc,hx⟩:=he;obtain ⟨A1,c1,rfl,-,-,-⟩:=hi;obtain ⟨A2,c2,rfl,-,-,hy⟩:=hn;unfold maxLen at hmc;have HX:=Lib.hid hx;have HY:=Lib.hid hy;have HN:=Lib.hid hN0;clear hx hy hf hc hin hN0;obtain ⟨wz,hwz⟩:∃ wz,wz = ((w.alloc (.cells #[.slice A N.ends.length c,.slice A1 N.ids.length c1,.slice A2 N.inputs.length c2] 31)).alloc (.map #[] 0)).alloc (.cells (madeCells #[.int .i64 0] N.ends.length) 3):=⟨_,rfl⟩;have hzs:wz.heap.size = w.heap.size + 3:=by rw [hwz]; simp
 have hbz:Below w.heap.size w wz:=by rw [hwz]; exact (((Below.refl _ _).alloc (Nat.le_refl _) _).alloc (by simp) _).alloc (by simp; omega) _
 have HK:Hid (Blk wz w.heap.size 31 #[.slice A N.ends.length c,.slice A1 N.ids.length c1,.slice A2 N.inputs.length c2]):=Lib.hid (by
  rw [hwz]
  exact ((Blk.new w 31 #[.slice A N.ends.length c,.slice A1 N.ids.length c1,.slice A2 N.inputs.length c2]).alloc _).alloc _)
 have HM0:Hid (OwnM wz 132 (w.heap.size + 1) 0 (fun _=>none)):=Lib.hid (by
  rw [hwz];have:=(OwnM.made (w.alloc (.cells #[.slice A N.ends.length c,.slice A1 N.ids.length c1,.slice A2 N.inputs.length c2] 31)) 132).below ((Below.refl _ _).alloc (Nat.le_refl _) (.cells (madeCells #[.int .i64 0] N.ends.length) 3))
  rwa [World.size_alloc] at this)
 have HR0:Hid (wz.rowIs (w.heap.size + 2) 3 N.ends.length (fun _=>.int .i64 0)):=Lib.hid (by
  rw [hwz];have:=World.rowIs_made ((w.alloc (.cells #[.slice A N.ends.length c,.slice A1 N.ids.length c1,.slice A2 N.inputs.length c2] 31)).alloc (.map #[] 0)) (.int .i64 0) N.ends.length 3
  rwa [World.size_alloc,World.size_alloc] at this)
 have HB0:=Lib.hid hbz;have HZ:=Lib.hid hwz;have hmk:=fun W=>Go.run_make_row' (P:=Tryz.prog) 26 3 (.int .i64 0) 8 Tryz.underlying26 sn rfl .i64 .i64 N.ends.length (by omega) (by omega) W;have hmm:=fun W=>run_makeMap (P:=Tryz.prog) 130 W;clear hwz hbz
 go_enter Tryz.func96,Tryz.ntmps96
 go_upto_region 3 with fail
 clear hmk hmm;rw [← HZ.out];clear HZ;obtain ⟨ob,hob⟩:∃ ob,ob = w.heap.size + 1 + 1:=⟨_,rfl⟩;have hob1:w.heap.size + 2 ≤ ob:=by omega
 have hob2:ob ≤ w.heap.size + 2:=by omega
 have HR1:Hid (wz.rowIs ob 3 N.ends.length (fun _=>.int .i64 0)):=Lib.hid (by rw [hob]; exact HR0.out);rw [← hob];clear hob HR0;have ka:=HK.out.cell
 go_wp2_with fail
 clear ka
 go_loopw [22] (fun x22 wr=>∃ (v:Nat) (f:Value → Option Value),v ≤ N.ends.length ∧ x22 = .int .i64 v ∧ VM N co (w.heap.size + 1) v f wr ∧ wr.rowIs ob 3 N.ends.length (fun q=>.int .i64 (if q < v then (nm (en N co) q:Nat) else 0)) ∧ LowB (w.heap.size + 1) wz wr)
  (fun x22 _=>N.ends.length - (intOf x22).toNat)
 case atStart=>exact ⟨0,_,Nat.zero_le _,rfl,⟨HM0.out,fun _ _ _ hu=>absurd hu (Nat.not_lt_zero _),fun _ _ _=>rfl⟩,HR1.out.congr fun q _=>by simp,⟨rfl,rfl,rfl,Nat.le_refl _,fun _ _=>rfl⟩⟩
 case round =>
  clear HM0 HR1;obtain ⟨v,f,hv,rfl,hvm,hri,hlow⟩:=hrel;obtain ⟨wr2,rfl⟩:∃ wr2,wr2 = wr:=⟨_,rfl⟩;have HVM:=Lib.hid hvm;have HRI:=Lib.hid hri;have HLW:=Lib.hid hlow;clear hvm hri hlow;have HBW:Hid (Below w.heap.size w wr2):=Lib.hid ⟨HLW.out.os.trans HB0.out.os,HLW.out.tape.trans HB0.out.tape,HLW.out.output.trans HB0.out.output,Nat.le_trans HB0.out.size HLW.out.size,fun k hk=>(HLW.out.block k (by omega)).trans (HB0.out.block k hk)⟩;have hwz2:=HLW.out.size
  by_cases hlt:v < N.ends.length
  ·obtain ⟨b,off,rfl,-,hrow⟩:=HX.out (by omega);obtain ⟨uk,huk,hurk⟩:=hrow v hlt;obtain ⟨Rk,rck,rfl,-,hrmk,hrrk⟩:=hurk;have ck:wr2.cell? ⟨b,off + v,none⟩ = some (.slice Rk (gl N.ends v).length rck):=(HBW.out.cell (p:=⟨b,off + v,none⟩) (a8 huk)).trans huk;have HRR:=Lib.hid hrrk;have hvin:v < N.inputs.length:=by have:=HIN.out; omega
   obtain ⟨bz,oz,rfl,-,hzc⟩:=HY.out (by omega);have z1:=hzc v hvin;obtain ⟨x,hx⟩:∃ x,x = gi N.inputs v:=⟨_,rfl⟩;rw [← hx] at z1;have zk:wr2.cell? ⟨bz,oz + v,none⟩ = some (.int .i64 x):=(HBW.out.cell (p:=⟨bz,oz + v,none⟩) (a8 z1)).trans z1;have HXX:=Lib.hid hx;have cN:=Blk.cell (w:=wr2) ((HLW.out.block w.heap.size (by omega)).trans HK.out);have jv1:(0:Int) ≤ (v:Int):=by omega
   have jv2:(v:Int) < (N.ends.length:Int):=by omega
   have jv3:(v:Int) < (N.inputs.length:Int):=by omega
   have hdk:=HD.out v hlt;unfold dg at hdk;obtain ⟨dk,hdk'⟩:∃ dk,dk = (gl N.ends v).length:=⟨_,rfl⟩;rw [← hdk'] at ck hdk;have HDK:=Lib.hid hdk';clear huk hrow hrrk hzc z1 hx hdk'
   go_upto_region 7 with fail
   have HKY:Hid ((wr2.alloc (.cells #[.int .i64 (dk:Nat),.int .i64 x,.int .i64 0,.int .i64 0,.int .i64 0,.int .i64 0,.int .i64 0,.int .i64 0,.int .i64 0,.int .i64 0,.int .i64 0,.int .i64 0,.int .i64 0,.int .i64 0] 132)).rowIs wr2.heap.size 132 14 (fun q=>.int .i64 (f9 N co v 0 q))):=Lib.hid (by
    rw [HDK.out,HXX.out]
    exact World.rowIs_alloc wr2 _ 132 _ (Qo N co v))
   have HLK:Hid (LowB wr2.heap.size wr2 (wr2.alloc (.cells #[.int .i64 (dk:Nat),.int .i64 x,.int .i64 0,.int .i64 0,.int .i64 0,.int .i64 0,.int .i64 0,.int .i64 0,.int .i64 0,.int .i64 0,.int .i64 0,.int .i64 0,.int .i64 0,.int .i64 0] 132))):=Lib.hid (LowB.of_below ((Below.refl _ _).alloc (Nat.le_refl _) _) (Nat.le_refl _));have hzk:(wr2.alloc (.cells #[.int .i64 (dk:Nat),.int .i64 x,.int .i64 0,.int .i64 0,.int .i64 0,.int .i64 0,.int .i64 0,.int .i64 0,.int .i64 0,.int .i64 0,.int .i64 0,.int .i64 0,.int .i64 0,.int .i64 0] 132)).heap.size = wr2.heap.size + 1:=by simp
   obtain ⟨kb,hkb⟩:∃ kb,kb = wr2.heap.size:=⟨_,rfl⟩;have hkb1:wr2.heap.size ≤ kb:=by omega
   have hkb2:kb ≤ wr2.heap.size:=by omega
   rw [← hkb] at HKY HLK hzk ⊢;clear hkb ck zk cN
   generalize wr2.alloc (.cells #[.int .i64 (dk:Nat),.int .i64 x,.int .i64 0,.int .i64 0,.int .i64 0,.int .i64 0,.int .i64 0,.int .i64 0,.int .i64 0,.int .i64 0,.int .i64 0,.int .i64 0,.int .i64 0,.int .i64 0] 132) = wk at *
   go_wp2_with fail
   go_loopw [37] (fun x37 wi=>∃ j:Nat,j ≤ dk ∧ x37 = .int .i64 j ∧ wi.rowIs kb 132 14 (fun q=>.int .i64 (f9 N co v j q)) ∧ LowB kb wr2 wi ∧ kb < wi.heap.size)
    (fun x37 _=>dk - (intOf x37).toNat)
   case atStart=>exact ⟨0,Nat.zero_le _,rfl,HKY.out,HLK.out,by omega⟩
   case round =>
    clear HKY HLK;obtain ⟨j,hj,rfl,hrk,hlk,hkw⟩:=hrel;obtain ⟨wi2,rfl⟩:∃ wi2,wi2 = wr:=⟨_,rfl⟩;have HKY:=Lib.hid hrk;have HLK:=Lib.hid hlk;clear hrk hlk
    by_cases hjl:j < dk
    ·have hjd:j < (gl N.ends v).length:=by rw [← HDK.out]; exact hjl
     obtain ⟨q,jj,hpt,hqb,hjj,hj5⟩:=HFI.out.at_ hlt (e:=gp (gl N.ends v) j) (by rw [gb hjd]; exact List.getElem_mem _);obtain ⟨bq,oq,rfl,-,hqc⟩:=HRR.out (by omega);obtain ⟨p1,p2⟩:=hqc j hjd;rw [hpt] at p1 p2;have l1:=a8 p1;have D1:wi2.cell? ⟨bq,oq + j * 2,none⟩ = some (.int .i64 (q:Int)):=(HLK.out.cell' (by have:=HBW.out.size; omega)).trans ((HBW.out.cell (p:=⟨bq,oq + j * 2,none⟩) l1).trans p1);have D2:wi2.cell? ⟨bq,oq + j * 2 + 1,none⟩ = some (.int .i64 (jj:Int)):=(HLK.out.cell' (by have:=HBW.out.size; omega)).trans ((HBW.out.cell (p:=⟨bq,oq + j * 2 + 1,none⟩) l1).trans p2);have HPT:=Lib.hid hpt;have jw1:(0:Int) ≤ (j:Int):=by omega
     have jw2:(j:Int) < (dk:Int):=by omega
     clear hqc p1 p2 hpt
     cases co with
     | none =>
      have hcv:cv = .slice none 0 0:=HCL.out;subst hcv;have HK2:=Lib.hid (HKY.out.alloc (.cells #[.int .i64 (q:Int),.int .i64 (jj:Int)] 97));have HL2:=Lib.hid (HLK.out.trans (LowB.of_below ((Below.refl wi2.heap.size wi2).alloc (Nat.le_refl _) (.cells #[.int .i64 (q:Int),.int .i64 (jj:Int)] 97)) (by omega)))
      go_wp2_with fail
      go_roundw
      case rel=>exact ⟨j + 1,by omega,by go_num,HK2.out,HL2.out,by simp; omega⟩
      case measure=>simp [intOf]; omega
     | some cl =>
      obtain ⟨hcr,hcl,hcb⟩:=HCL.out;obtain ⟨Ac,cc,rfl,-,hcm,hcx⟩:=hcr;obtain ⟨bc,oc,rfl,-,hcc⟩:=hcx (by omega);have y0:=hcc q (by omega);have ly:=a8 y0;obtain ⟨y,hy⟩:∃ y,y = gi cl q:=⟨_,rfl⟩;rw [← hy] at y0;have y1:wi2.cell? ⟨bc,oc + q,none⟩ = some (.int .i64 y):=(HLK.out.cell' (by have:=HBW.out.size; omega)).trans ((HBW.out.cell (p:=⟨bc,oc + q,none⟩) ly).trans y0);have HY1:=Lib.hid hy;have iq1:(0:Int) ≤ (q:Int):=by omega
      have iq2:(q:Int) < (cl.length:Int):=by omega
      clear hcc hcx hcb y0 hy hcl
      go_upto_region 11 with fail
      have HE:=Lib.hid (Blk.new wi2 97 #[.int .i64 (q:Int),.int .i64 (jj:Int)]);have HK2:=Lib.hid (HKY.out.alloc (.cells #[.int .i64 (q:Int),.int .i64 (jj:Int)] 97));have HL2:=Lib.hid (HLK.out.trans (LowB.of_below ((Below.refl wi2.heap.size wi2).alloc (Nat.le_refl _) (.cells #[.int .i64 (q:Int),.int .i64 (jj:Int)] 97)) (by omega)));have hbc:bc < kb:=by have:=HBW.out.size; omega
      have hlw:LowB kb wi2 (wi2.alloc (.cells #[.int .i64 (q:Int),.int .i64 (jj:Int)] 97)):=LowB.of_below ((Below.refl wi2.heap.size wi2).alloc (Nat.le_refl _) _) (by omega);have y2:=(hlw.cell' (o:=oc + q) hbc).trans y1;have hza:(wi2.alloc (.cells #[.int .i64 (q:Int),.int .i64 (jj:Int)] 97)).heap.size = wi2.heap.size + 1:=by simp
      obtain ⟨h11,hh⟩:∃ h11,h11 = wi2.heap.size:=⟨_,rfl⟩;have hne:h11 ≠ kb:=by omega
      have hza2:kb < (wi2.alloc (.cells #[.int .i64 (q:Int),.int .i64 (jj:Int)] 97)).heap.size:=by omega
      rw [← hh] at HE ⊢;clear hh D1 D2 y1 hlw hza HLK HKY
      generalize wi2.alloc (.cells #[.int .i64 (q:Int),.int .i64 (jj:Int)] 97) = wA at *
      have HSS:Hid (∀ W,LowB kb wA W → Blk W h11 97 #[.int .i64 (q:Int),.int .i64 (jj:Int)] → W.cell? ⟨h11,0,none⟩ = some (.int .i64 (q:Int)) ∧ W.cell? ⟨h11,1,none⟩ = some (.int .i64 (jj:Int)) ∧ W.cell? ⟨bc,oc + q,none⟩ = some (.int .i64 y)):=Lib.hid fun W hW hB =>
       ⟨hB.cell 0,hB.cell 1,(hW.cell' hbc).trans y2⟩
      have k2:=HK2.out.cell (i:=2 * j + 2) (by omega);have kf:=HK2.out.frozen
      generalize f9 N (some cl) v j (2 * j + 2) = z2 at k2
      have hm1:IntKind.i64.wrap (2 * (j:Int)) = 2 * (j:Int):=IntWalk.i64_in _ (by omega);have hm2:IntKind.i64.wrap (2 + 2 * (j:Int)) = ((2 * j + 2:Nat):Int):=by rw [IntWalk.i64_in _ (by omega)]; omega
      have hm3:IntKind.i64.wrap (3 + 2 * (j:Int)) = ((2 * j + 3:Nat):Int):=by rw [IntWalk.i64_in _ (by omega)]; omega
      have hb1:(0:Int) ≤ 2 * (j:Int) + 2:=by omega
      have hb2:2 * (j:Int) + 2 < 14:=by omega
      have hb3:(0:Int) ≤ 2 * (j:Int) + 3:=by omega
      have hb4:2 * (j:Int) + 3 < 14:=by omega
      have ht2:(2 * (j:Int) + 2).toNat = 2 * j + 2:=by omega
      have ht3:(2 * (j:Int) + 3).toNat = 2 * j + 3:=by omega
      clear y2;refine wp_region_any (by kernel_rfl) ?_
      try (change wpAny _ _ _ _ _ _ _ (World.drew _))
      simp only [List.size_toArray,List.length_cons,List.length_nil,Array.replicate,List.replicate];refine wpAny_take (i:=0) (oi:=_) (v:=?_) rfl (by kernel_rfl) (by kernel_rfl) (by kernel_rfl) (fun _ _ _ h=>h) (Or.inl ⟨by rfl,?_⟩) ?_
      case refine_2=>intro w0; go_simp; with_reducible rfl
      try simp only [Act.put,List.getElem_toArray,List.getElem_cons_zero,List.getElem_cons_succ,List.setIfInBounds_toArray,List.set_cons_zero,List.set_cons_succ]
      refine wpAny_take (i:=1) (oi:=_) (v:=?_) rfl (by kernel_rfl) (by kernel_rfl) (by kernel_rfl) (fun _ _ _ h=>h) (Or.inl ⟨by rfl,?_⟩) ?_
      case refine_2=>intro w0; go_simp; with_reducible rfl
      try simp only [Act.put,List.getElem_toArray,List.getElem_cons_zero,List.getElem_cons_succ,List.setIfInBounds_toArray,List.set_cons_zero,List.set_cons_succ]
      refine wpAny_take (i:=2) (oi:=_) (v:=?_) rfl (by kernel_rfl) (by kernel_rfl) (by kernel_rfl) (fun _ _ _ h=>h) (Or.inl ⟨by rfl,?_⟩) ?_
      case refine_2=>intro w0; go_simp; with_reducible rfl
      try simp only [Act.put,List.getElem_toArray,List.getElem_cons_zero,List.getElem_cons_succ,List.setIfInBounds_toArray,List.set_cons_zero,List.set_cons_succ]
      refine wpAny_take (i:=3) (oi:=_) (v:=?_) rfl (by kernel_rfl) (by kernel_rfl) (by kernel_rfl) (fun _ _ _ h=>h) (Or.inl ⟨by rfl,?_⟩) ?_
      case refine_2=>intro w0; go_simp; with_reducible rfl
      try simp only [Act.put,List.getElem_toArray,List.getElem_cons_zero,List.getElem_cons_succ,List.setIfInBounds_toArray,List.set_cons_zero,List.set_cons_succ]
      refine wpAny_take (i:=4) (oi:=_) (v:=?_) rfl (by kernel_rfl) (by kernel_rfl) (by kernel_rfl) (fun _ _ _ h=>h) (Or.inl ⟨by rfl,?_⟩) ?_
      case refine_2=>intro w0; go_simp; with_reducible rfl
      try simp only [Act.put,List.getElem_toArray,List.getElem_cons_zero,List.getElem_cons_succ,List.setIfInBounds_toArray,List.set_cons_zero,List.set_cons_succ]
      refine wpAny_take (i:=5) (oi:=_) (v:=?_) rfl (by kernel_rfl) (by kernel_rfl) (by kernel_rfl) (fun _ _ _ h=>h) (Or.inl ⟨by rfl,?_⟩) ?_
      case refine_2=>intro w0; go_simp; with_reducible rfl
      try simp only [Act.put,List.getElem_toArray,List.getElem_cons_zero,List.getElem_cons_succ,List.setIfInBounds_toArray,List.set_cons_zero,List.set_cons_succ]
      refine wpAny_take (i:=6) (oi:=_) (v:=?_) rfl (by kernel_rfl) (by kernel_rfl) (by kernel_rfl) (fun _ _ _ h=>h) (Or.inl ⟨by rfl,?_⟩) ?_
      case refine_2=>intro w0; go_simp; with_reducible rfl
      try simp only [Act.put,List.getElem_toArray,List.getElem_cons_zero,List.getElem_cons_succ,List.setIfInBounds_toArray,List.set_cons_zero,List.set_cons_succ]
      refine wpAny_take (i:=8) (oi:=_) (v:=?_) rfl (by kernel_rfl) (by kernel_rfl) (by kernel_rfl) (fun _ _ _ h=>h) (Or.inl ⟨by rfl,?_⟩) ?_
      case refine_2=>intro w0; go_simp; with_reducible rfl
      try simp only [Act.put,List.getElem_toArray,List.getElem_cons_zero,List.getElem_cons_succ,List.setIfInBounds_toArray,List.set_cons_zero,List.set_cons_succ]
      refine wpAny_take (i:=9) (oi:=_) (v:=?_) rfl (by kernel_rfl) (by kernel_rfl) (by kernel_rfl) (fun _ _ _ h=>h) (Or.inl ⟨by rfl,?_⟩) ?_
      case refine_2=>intro w0; go_simp; with_reducible rfl
      try simp only [Act.put,List.getElem_toArray,List.getElem_cons_zero,List.getElem_cons_succ,List.setIfInBounds_toArray,List.set_cons_zero,List.set_cons_succ]
      refine Bc (S:=fun W=>W.cell? ⟨h11,0,none⟩ = some (.int .i64 (q:Int)) ∧ W.cell? ⟨h11,1,none⟩ = some (.int .i64 (jj:Int)) ∧ W.cell? ⟨bc,oc + q,none⟩ = some (.int .i64 y)) (n1:=17) _ _ _ _ ?_;refine iw (i:=7) (oi:=_) (v:=?_) rfl (by kernel_rfl) (by kernel_rfl) (by kernel_rfl) (by omega) (by kernel_rfl) (fun _ _ _ h=>h) (Or.inl ⟨by rfl,?_⟩) (HSS.out _ (LowB.of_below (Below.refl _ _).drew (by omega)) (HE.out.below (Below.refl _ _).drew)) ?_
      case refine_2=>intro w0 hS0; obtain ⟨h0,h1,h2⟩:=hS0; go_simp; try with_reducible rfl
      try simp only [Act.put,List.getElem_toArray,List.getElem_cons_zero,List.getElem_cons_succ,List.setIfInBounds_toArray,List.set_cons_zero,List.set_cons_succ]
      refine iw (i:=10) (oi:=_) (v:=?_) rfl (by kernel_rfl) (by kernel_rfl) (by kernel_rfl) (by omega) (by kernel_rfl) (fun _ _ _ h=>h) (Or.inl ⟨by rfl,?_⟩) (HSS.out _ (LowB.of_below (Below.refl _ _).drew (by omega)) (HE.out.below (Below.refl _ _).drew)) ?_
      case refine_2=>intro w0 hS0; obtain ⟨h0,h1,h2⟩:=hS0; go_simp; try with_reducible rfl
      try simp only [Act.put,List.getElem_toArray,List.getElem_cons_zero,List.getElem_cons_succ,List.setIfInBounds_toArray,List.set_cons_zero,List.set_cons_succ]
      refine iw (i:=11) (oi:=_) (v:=?_) rfl (by kernel_rfl) (by kernel_rfl) (by kernel_rfl) (by omega) (by kernel_rfl) (fun _ _ _ h=>h) (Or.inl ⟨by rfl,?_⟩) (HSS.out _ (LowB.of_below (Below.refl _ _).drew (by omega)) (HE.out.below (Below.refl _ _).drew)) ?_
      case refine_2=>intro w0 hS0; obtain ⟨h0,h1,h2⟩:=hS0; go_simp; try with_reducible rfl
      try simp only [Act.put,List.getElem_toArray,List.getElem_cons_zero,List.getElem_cons_succ,List.setIfInBounds_toArray,List.set_cons_zero,List.set_cons_succ]
      refine iw (i:=12) (oi:=_) (v:=?_) rfl (by kernel_rfl) (by kernel_rfl) (by kernel_rfl) (by omega) (by kernel_rfl) (fun _ _ _ h=>h) (Or.inl ⟨by rfl,?_⟩) (HSS.out _ (LowB.of_below (Below.refl _ _).drew (by omega)) (HE.out.below (Below.refl _ _).drew)) ?_
      case refine_2=>intro w0 hS0; obtain ⟨h0,h1,h2⟩:=hS0; go_simp; try with_reducible rfl
      try simp only [Act.put,List.getElem_toArray,List.getElem_cons_zero,List.getElem_cons_succ,List.setIfInBounds_toArray,List.set_cons_zero,List.set_cons_succ]
      refine iw (i:=13) (oi:=_) (v:=?_) rfl (by kernel_rfl) (by kernel_rfl) (by kernel_rfl) (by omega) (by kernel_rfl) (fun _ _ _ h=>h) (Or.inl ⟨by rfl,?_⟩) (HSS.out _ (LowB.of_below (Below.refl _ _).drew (by omega)) (HE.out.below (Below.refl _ _).drew)) ?_
      case refine_2=>intro w0 hS0; obtain ⟨h0,h1,h2⟩:=hS0; go_simp; try with_reducible rfl
      try simp only [Act.put,List.getElem_toArray,List.getElem_cons_zero,List.getElem_cons_succ,List.setIfInBounds_toArray,List.set_cons_zero,List.set_cons_succ]
      have hl3:LowB kb wA (wA.setCell ⟨kb,2 * j + 2,none⟩ (.int .i64 (jj:Int))):=LowB.set (p:=⟨kb,2 * j + 2,none⟩) (Nat.le_refl _) _;have hl3d:LowB kb wA (wA.setCell ⟨kb,2 * j + 2,none⟩ (.int .i64 (jj:Int))).drew:=hl3.trans (LowB.of_below (Below.refl _ _).drew (by simp [World.setCell]; omega));have HS3:=Lib.hid (HSS.out _ hl3d (HE.out.far (p:=⟨kb,2 * j + 2,none⟩) hne (.int .i64 (jj:Int))));have HK3:=Lib.hid (HK2.out.set (2 * j + 2) (.int .i64 (jj:Int)));clear hl3d;refine vu (rs:=[14]) (by kernel_rfl) (by simp) (by kernel_rfl) (AllReadyP.cons (o:=_) rfl (fun K hK=>?_) AllReadyP.nil)
      go_simp
      refine hK.out _ _ (HS3.out) (fun _=>?_);clear hK K
      try simp only [Act.put,List.getElem_toArray,List.getElem_cons_zero,List.getElem_cons_succ,List.setIfInBounds_toArray,List.set_cons_zero,List.set_cons_succ]
      refine iw (i:=15) (oi:=_) (v:=?_) rfl (by kernel_rfl) (by kernel_rfl) (by kernel_rfl) (by omega) (by kernel_rfl) (fun _ _ _ h=>h) (Or.inl ⟨by rfl,?_⟩) (HS3.out) ?_
      case refine_2=>intro w0 hS0; obtain ⟨h0,h1,h2⟩:=hS0; go_simp; try with_reducible rfl
      try simp only [Act.put,List.getElem_toArray,List.getElem_cons_zero,List.getElem_cons_succ,List.setIfInBounds_toArray,List.set_cons_zero,List.set_cons_succ]
      have hl4:LowB kb wA ((wA.setCell ⟨kb,2 * j + 2,none⟩ (.int .i64 (jj:Int))).setCell ⟨kb,2 * j + 3,none⟩ (.int .i64 y)):=hl3.trans (LowB.set (p:=⟨kb,2 * j + 3,none⟩) (Nat.le_refl _) _);have hl4d:LowB kb wA ((wA.setCell ⟨kb,2 * j + 2,none⟩ (.int .i64 (jj:Int))).setCell ⟨kb,2 * j + 3,none⟩ (.int .i64 y)).drew:=hl4.trans (LowB.of_below (Below.refl _ _).drew (by simp [World.setCell]; omega));have HS4:=Lib.hid (HSS.out _ hl4d ((HE.out.far (p:=⟨kb,2 * j + 2,none⟩) hne (.int .i64 (jj:Int))).far (p:=⟨kb,2 * j + 3,none⟩) hne (.int .i64 y)))
      have HK4:=Lib.hid ((HK3.out.set (2 * j + 3) (.int .i64 y)).congr (g:=fun q=>.int .i64 (f9 N (some cl) v (j + 1) q)) fun i hi=>by
       have:=Qn (N:=N) (c:=cl) (v:=v) (j:=j) i hi;rw [HPT.out,Int.toNat_natCast,← HY1.out] at this;rw [← this]
       by_cases i3:i = 2 * j + 3
       ·rw [if_pos i3,if_pos i3]
       ·by_cases i2:i = 2 * j + 2
        ·rw [if_neg i3,if_neg i3,if_pos i2,if_pos i2]
        ·rw [if_neg i3,if_neg i3,if_neg i2,if_neg i2])
      have k4:=HK3.out.cell (i:=2 * j + 3) (by omega);have kf4:=HK3.out.frozen;have HL4:=Lib.hid (HL2.out.trans hl4d);have hn3:¬ 2 * j + 3 = 2 * j + 2:=by omega
      simp only [if_neg hn3] at k4
      generalize f9 N (some cl) v j (2 * j + 3) = z3 at k4
      refine vu (rs:=[16]) (by kernel_rfl) (by simp) (by kernel_rfl) (AllReadyP.cons (o:=_) rfl (fun K hK=>?_) AllReadyP.nil)
      go_simp
      refine hK.out _ _ (HS4.out) (fun _=>?_);clear hK K
      try simp only [Act.put,List.getElem_toArray,List.getElem_cons_zero,List.getElem_cons_succ,List.setIfInBounds_toArray,List.set_cons_zero,List.set_cons_succ]
      refine Pa (by kernel_rfl) (wpAny_done (by kernel_rfl) ?_ _);clear k2 kf k4 kf4 hl3 hl4 hl4d
      go_wp2_with fail
      go_roundw
      case rel=>exact ⟨j + 1,by omega,by go_num,HK4.out,HL4.out,by simp [World.setCell]; omega⟩
      case measure=>simp [intOf]; omega
    ·obtain rfl:j = dk:=by omega
     have hjx:¬ ((j:Int) < (j:Int)):=by omega
     have HKZ:=Lib.hid (Wm (f:=fun q=>.int .i64 (f9 N co v j q)) HKY.out);have kz:=HKZ.out.cell;obtain ⟨K,hK⟩:∃ K,K = ow (l5 N co v):=⟨_,rfl⟩
     have HKEY:Hid (.agg #[.int .i64 (f9 N co v j 0),.int .i64 (f9 N co v j 1),.int .i64 (f9 N co v j 2),.int .i64 (f9 N co v j 3),.int .i64 (f9 N co v j 4),.int .i64 (f9 N co v j 5),.int .i64 (f9 N co v j 6),.int .i64 (f9 N co v j 7),.int .i64 (f9 N co v j 8),.int .i64 (f9 N co v j 9),.int .i64 (f9 N co v j 10),.int .i64 (f9 N co v j 11),.int .i64 (f9 N co v j 12),.int .i64 (f9 N co v j 13)] = K):=Lib.hid (by
      rw [hK];unfold l5
      rw [← HDK.out,jbe])
     have HV2:=Lib.hid (HVM.out.keepB (HLK.out.block (w.heap.size + 1) (by omega)));have HR2:=Lib.hid (HRI.out.of_block (HLK.out.block ob (by omega)))
     obtain ⟨kl,hkl⟩:=Lq (Ua N co v) (Xb (HFI.out.deg v hlt) (HFI.out.inp v hlt) (fun i hi=>by
      obtain ⟨q,jj,e,-,-,h5⟩:=HFI.out.at_ hlt (e:=gp (gl N.ends v) i) (by rw [gb hi]; exact List.getElem_mem _);rw [e]
      exact ⟨by simp,by simp; omega⟩) (fun c hc=>by
      have h1:=HCL.out;rw [hc] at h1
      exact h1.2.2))
     rw [← hK] at hkl;have HKL:=Lib.hid hkl;have HKQ:=Lib.hid hK;have HLM:Hid (LowB (w.heap.size + 1) wz wi2):=Lib.hid (HLW.out.trans (HLK.out.weak' (by omega)));have hmb:w.heap.size + 1 < wi2.heap.size:=by omega
     have hrc:=HR2.out.cell hlt;have hrf:=HR2.out.frozen v;have hcn:=Mg (en N co) v
     generalize (if v < v then (nm (en N co) v:Nat) else 0) = r0 at hrc
     clear hj hjl hkl HLK HKY hK
     cases hn:jd (en N co) v with
     | false =>
      obtain ⟨hfk,hvm2⟩:=HV2.out.old hn hlt;rw [← HKQ.out] at hfk;have HR:Hid ((f K).getD (.int .i64 0) = .int .i64 (nm (en N co) v:Nat)):=Lib.hid (by rw [hfk]; rfl);have HO:Hid ((f K).isSome = true):=Lib.hid (by rw [hfk]; rfl);obtain ⟨nv,hnv⟩:∃ nv,nv = nm (en N co) v:=⟨_,rfl⟩;rw [← hnv] at HR;have HV3:=Lib.hid (hvm2.keepB (W':=wi2.setCell ⟨ob,v,none⟩ (.int .i64 (nv:Nat))) (Below.heap_setCell _ _ _ _ (by simp only; omega)))
      have HR3:=Lib.hid ((HR2.out.set v (.int .i64 (nv:Nat))).congr (g:=fun q=>.int .i64 (if q < v + 1 then (nm (en N co) q:Nat) else 0)) fun q _=>by
       by_cases e:q = v
       ·subst e; rw [if_pos rfl,if_pos (by omega),hnv]
       ·rw [if_neg e]
        by_cases e2:q < v
        ·rw [if_pos e2,if_pos (by omega)]
        ·rw [if_neg e2,if_neg (by omega)])
      have HL3:=Lib.hid (HLM.out.trans (LowB.set (p:=⟨ob,v,none⟩) (by simp only; omega) (.int .i64 (nv:Nat))));clear hfk hvm2 hnv hn
      go_wp2_with (at_lookup; refine nt _ rfl (.tmp 61) (.tmp 62) 130 rfl yu vz (D9 _) rfl HV2.out.mp K HKEY.out HKL.out HR.out HO.out ?_)
      go_roundw
      case rel=>exact ⟨v + 1,f,by omega,by go_num,HV3.out,HR3.out,HL3.out⟩
      case measure=>simp [intOf]; omega
     | true =>
      obtain ⟨hfk,hnew⟩:=HV2.out.new HD.out hn hlt;rw [← HKQ.out] at hfk hnew;have HR:Hid ((f K).getD (.int .i64 0) = .int .i64 0):=Lib.hid (by rw [hfk]; rfl);have HO:Hid ((f K).isSome = false):=Lib.hid (by rw [hfk]; rfl);have HNW:=Lib.hid hnew;have HNN:=Lib.hid (yl hn);obtain ⟨cn,hcn'⟩:∃ cn,cn = cnB (en N co) v:=⟨_,rfl⟩;have HM2:=Lib.hid HV2.out.mp;rw [← hcn'] at HNN HM2 HNW hcn;have HNI:=Lib.hid hn;have hln:=fun ty=>HM2.out.len vz ty;clear hfk hnew hn hcn'
      go_upto_region 16 with (at_lookup; refine nt _ rfl (.tmp 61) (.tmp 62) 130 rfl yu vz (D9 _) rfl HV2.out.mp K HKEY.out HKL.out HR.out HO.out ?_)
      clear hln
      go_upto_region 17 with (at_mapUpdate; refine Fx _ rfl (.tmp 70) (.tmp 71) (.tmp 72) 130 rfl yu vz rfl HM2.out (by unfold maxLen; omega) K (.int .i64 (cn:Nat)) HKEY.out rfl HKL.out ?_; intro w2 hg2 hput)
      have HM3:=Lib.hid (hput (S5 f K (.int .i64 (cn:Nat))) (Nq ..) (fun key' kl' _ hne=>In _ hne));have HV3:=Lib.hid (HNW.out _ _ (by have:=HM3.out; rw [HO.out] at this; exact this) (Nq ..) (fun x _ hne=>In _ hne));have hz2:=hg2.size;have HR3:=Lib.hid (HR2.out.of_block (hg2.block ob (by have:=HR2.out.lt; omega) (by simp; omega)));have HL3:=Lib.hid (HLM.out.trans (LowB.of_grown hg2 (by omega) (fun k hk=>by cases hk; exact Nat.le_refl _)));have hrc2:=HR3.out.cell hlt;have hrf2:=HR3.out.frozen v
      generalize (if v < v then (nm (en N co) v:Nat) else 0) = r1 at hrc2
      have HV4:=Lib.hid (HV3.out.keepB (W':=w2.setCell ⟨ob,v,none⟩ (.int .i64 (cn:Nat))) (Below.heap_setCell _ _ _ _ (by simp only; omega)))
      have HR4:=Lib.hid ((HR3.out.set v (.int .i64 (cn:Nat))).congr (g:=fun q=>.int .i64 (if q < v + 1 then (nm (en N co) q:Nat) else 0)) fun q _=>by
       by_cases e:q = v
       ·subst e; rw [if_pos rfl,if_pos (by omega),HNN.out]
       ·rw [if_neg e]
        by_cases e2:q < v
        ·rw [if_pos e2,if_pos (by omega)]
        ·rw [if_neg e2,if_neg (by omega)])
      have HL4:=Lib.hid (HL3.out.trans (LowB.set (p:=⟨ob,v,none⟩) (by simp only; omega) (.int .i64 (cn:Nat))));clear hg2 hput kz hrc hrf
      go_wp2_with fail
      go_roundw
      case rel=>exact ⟨v + 1,_,by omega,by go_num,HV4.out,HR4.out,HL4.out⟩
      case measure=>simp [intOf]; omega
  ·obtain rfl:v = N.ends.length:=by omega
   have hjx:¬ ((N.ends.length:Int) < (N.ends.length:Int)):=by omega
   have HOI:Hid (OwnI wr2 w.heap.size (.slice (some ⟨ob,0,none⟩) N.ends.length N.ends.length) (rz (en N co) N.ends.length)):=Lib.hid (OwnI.of_rowIs (HRI.out.congr fun q hq=>by
    rw [sx hq,if_pos hq]) (xi _ _) (by omega) (by unfold maxLen; omega))
   clear hv hlt
   go_wp2_with fail
   go_ret
   exact ⟨_,rfl,HOI.out,HBW.out⟩
end Go.Proofs.YtfknckinfcicbaaGreat
