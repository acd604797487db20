/- The reference's copy of a network. -/
import Derived.Test.YtfknckinfcicbaaGreatCJn9
import Derived.Test.YtfknckinfcicbaaGreatCJn7
import Derived.Deep.RegionHeld3
import Derived.Deep.DeepCutAuto
import Derived.Deep.RegionLaw
set_option linter.unusedSimpArgs false
set_option linter.unusedVariables false
namespace Go.Proofs.YtfknckinfcicbaaGreat
open Go.RowKit
theorem OwnEs.push {w0 w1 w2:World} {B:Nat} {v v' u:Value} {ess:List (List (Int × Int))} {es:List (Int × Int)} {us:Nat → Value} (hv:w0.ownsRow B 95 1 v ess.length ((List.range ess.length).map us)) (hi:∀ i,i < ess.length → OwnE w0 B (us i) (gl ess i))
 (hd:∀ i j,i < ess.length → j < ess.length → i ≠ j → ∀ g,(us i).ownBlock = some g → (us j).ownBlock ≠ some g) (hb:Below w0.heap.size w0 w1) (hu:OwnE w1 w0.heap.size u es) (hB:B ≤ w0.heap.size)
 (hr:w2.ownsRow B 95 1 v' (ess.length + 1) ((List.range ess.length).map us ++ [u])) (hg:w1.grownBy w2 v.ownBlock):OwnEs w2 B v' (ess ++ [es]):=by
 have hvt:∀ g,v.ownBlock = some g → ∃ cs,w1.heap[g]? = some (.cells cs 95 (0,0)):=fun g hg'=>by
  rcases hv.2 with ⟨rfl,_⟩ | ⟨g',cap,cur,rfl,_,hh,_⟩
  ·cases hg'
  ·cases hg'; exact ⟨cur,(hb.block _ (Array.getElem?_eq_some_iff.1 hh).1).trans hh⟩
 have key:∀ {x:Value} {fs:List (Int × Int)} {C:Nat},OwnE w1 C x fs → OwnE w2 C x fs:=fun {x fs C} hx=>hx.keepB fun b hbx=>hg.block b (hx.lt b hbx).2 (fun e=>by
  obtain ⟨cs,h1⟩:=hx.type b hbx;obtain ⟨cs',h2⟩:=hvt b e.symm;rw [h1] at h2
  simp at h2)
 have gl1:∀ i,i < ess.length → gl (ess ++ [es]) i = gl ess i:=fun i h=>by simp [gl,List.getElem?_append_left h]
 have gl2:gl (ess ++ [es]) ess.length = es:=by simp [gl]
 have e0:(List.range (ess.length + 1)).map (fun i=>if i < ess.length then us i else u) = (List.range ess.length).map us ++ [u]:=by
  rw [List.range_succ,List.map_append]
  congr 1
  ·exact List.map_congr_left fun i h=>by simp [List.mem_range.1 h]
  ·simp
 have ln:(ess ++ [es]).length = ess.length + 1:=by simp
 refine ⟨fun i=>if i < ess.length then us i else u,?_,fun i h=>?_,fun i j h1 h2 hne g hgi=>?_⟩
 ·rw [ln,e0]; exact hr
 ·rw [ln] at h
  by_cases hl:i < ess.length
  ·simp only [hl,if_true];rw [gl1 i hl];exact key ((hi i hl).below hb)
  ·obtain rfl:i = ess.length:=by omega
   simp only [Nat.lt_irrefl,if_false];rw [gl2];exact (key hu).mono hB
 ·rw [ln] at h1 h2
  by_cases hl:i < ess.length
  ·simp only [hl,if_true] at hgi
   by_cases hl2:j < ess.length
   ·simp only [hl2,if_true];exact hd i j hl hl2 hne g hgi
   ·simp only [hl2,if_false];intro e;have a1:=((hi i hl).lt g hgi).2;have a2:=(hu.lt g e).1;omega
  ·simp only [hl,if_false] at hgi;have hl2:j < ess.length:=by omega
   simp only [hl2,if_true];intro e;have a1:=((hi j hl2).lt g e).2;have a2:=(hu.lt g hgi).1;omega
theorem r4 {W:World} {g:Nat} {t:TypeId} {a b c:Value} (h:Blk W g t #[a,b,c]):W.cell? ⟨g,1,none⟩ = some b ∧ W.cell? ⟨g,2,none⟩ = some c :=
 ⟨by rw [h.cell]; rfl,by rw [h.cell]; rfl⟩
set_option maxRecDepth 100000 in
set_option maxHeartbeats 2000000 in
theorem Qd {S:Nat → Prop} (v:Value) (N:Net) (w:World) (h:NetR w S v N) (hs:er N):Calls Tryz.prog 132 #[v] w (Yv w N):=by
 obtain ⟨ve,vi,vn,rfl,he,hi,hn⟩:=h;obtain ⟨hs1,hs2,hs3,hs4⟩:=hs;have HI:=Lib.hid hi;have HN:=Lib.hid hn;have HE:=Lib.hid he;obtain ⟨A1,c1,rfl,-,-,-⟩:=hi;obtain ⟨A2,c2,rfl,-,-,-⟩:=hn;obtain ⟨A,c,rfl,hnc,hm,hx⟩:=he;have HX:=Lib.hid hx;have HS2:=Lib.hid hs2;unfold maxLen at hm;clear hx hs2
 go_enter Tryz.func132,Tryz.ntmps132
 have hb2:∀ o1 o2,Below w.heap.size w ((w.alloc o1).alloc o2):=fun o1 o2=>((Below.refl _ _).alloc (Nat.le_refl _) _).alloc (by simp) _;have HKa:=Lib.hid ((Blk.new w 31 #[.slice A N.ends.length c,.slice A1 N.ids.length c1,.slice A2 N.inputs.length c2]).alloc (.cells #[.slice none 0 0,.slice none 0 0,.slice none 0 0] 31))
 have HRa:Hid (Blk ((w.alloc (.cells #[.slice A N.ends.length c,.slice A1 N.ids.length c1,.slice A2 N.inputs.length c2] 31)).alloc (.cells #[.slice none 0 0,.slice none 0 0,.slice none 0 0] 31)) (w.heap.size + 1) 31 #[.slice none 0 0,.slice none 0 0,.slice none 0 0]):=by
  have:=Blk.new (w.alloc (.cells #[.slice A N.ends.length c,.slice A1 N.ids.length c1,.slice A2 N.inputs.length c2] 31)) 31 #[.slice none 0 0,.slice none 0 0,.slice none 0 0];exact Lib.hid (by simpa using this)
 have HBa:=Lib.hid (hb2 (.cells #[.slice A N.ends.length c,.slice A1 N.ids.length c1,.slice A2 N.inputs.length c2] 31) (.cells #[.slice none 0 0,.slice none 0 0,.slice none 0 0] 31));clear hb2
 go_upto_region 1 with (fail)
 generalize (w.alloc (.cells #[.slice A N.ends.length c,.slice A1 N.ids.length c1,.slice A2 N.inputs.length c2] 31)).alloc (.cells #[.slice none 0 0,.slice none 0 0,.slice none 0 0] 31) = wa at *
 have hlt0:w.heap.size < wa.heap.size:=HKa.out.lt
 go_cut [3] (fun v3 W=>∃ (b3:Nat) (Ab Ac:Option Addr) (cb cc:Nat),v3 = .pointer (some ⟨b3,0,none⟩) ∧ Blk W b3 31 #[.slice none 0 0,.slice Ab N.ids.length cb,.slice Ac N.inputs.length cc] ∧ wa.heap.size ≤ b3 ∧
  OwnI W wa.heap.size (.slice Ab N.ids.length cb) N.ids ∧ OwnI W wa.heap.size (.slice Ac N.inputs.length cc) N.inputs ∧ (∀ g,(Value.slice Ab N.ids.length cb).ownBlock = some g → (Value.slice Ac N.inputs.length cc).ownBlock ≠ some g) ∧ Below wa.heap.size wa W)
 case first =>
  have hne0:w.heap.size ≠ wa.heap.size:=by omega
  go_region_held3 (fun W=>W.cell? ⟨w.heap.size,1,none⟩ = some (.slice A1 N.ids.length c1) ∧ W.cell? ⟨w.heap.size,2,none⟩ = some (.slice A2 N.inputs.length c2))
   (first | exact r4 HKa.out | exact r4 (HKa.out.alloc _) | exact r4 (HKa.out.below hbb') | exact r4 ((HKa.out.below hbb').alloc _) | exact r4 (HKa.out.below hbc') | exact r4 ((HKa.out.below hbc').alloc _) | exact r4 ((((HKa.out.below hbc').far hne1 _).far hne1 _).far hne1 _) | exact r4 ((((HKa.out.below hbc').far hne0 _).far hne0 _).far hne0 _))
   (first
     | (go_at_call_of 104 (Value.slice A1 N.ids.length c1); refine (oa _ _ _ (HI.out.below (HBa.out.drew)) (by omega)).mono ?_; rintro e wb ⟨vb,rfl,hob,hbb⟩; obtain ⟨Ab,cb,rfl⟩:=hob.shape; have hbb':=Below.then_ ((Below.refl wa.heap.size wa).drew) hbb)
     | (go_at_call_of 104 (Value.slice A1 N.ids.length c1); refine (oa _ _ _ (HI.out.below (HBa.out.alloc HBa.out.size (.cells #[.slice none 0 0,.slice none 0 0,.slice none 0 0] 31)).drew) (by omega)).mono ?_; rintro e wb ⟨vb,rfl,hob,hbb⟩; obtain ⟨Ab,cb,rfl⟩:=hob.shape; have hbb':=Below.then_ ((Below.refl wa.heap.size wa).alloc (Nat.le_refl _) (.cells #[.slice none 0 0,.slice none 0 0,.slice none 0 0] 31)).drew hbb; have hk2:Blk wb wa.heap.size 31 #[.slice none 0 0,.slice none 0 0,.slice none 0 0]:=Blk.below (w:=(wa.alloc (.cells #[.slice none 0 0,.slice none 0 0,.slice none 0 0] 31)).drew) (Blk.new wa 31 #[.slice none 0 0,.slice none 0 0,.slice none 0 0]) hbb)
     | (go_at_call_of 104 (Value.slice A2 N.inputs.length c2); have hk2':=hk2; refine (oa _ _ _ (HN.out.below (Below.then_ HBa.out hbb')) (by omega)).mono ?_; rintro e wc ⟨vc,rfl,hoc,hbc⟩; obtain ⟨Ac,cc,rfl⟩:=hoc.shape; have hbc':=Below.then_ hbb' hbc; have hk3:=Blk.below hk2 hbc; have hk3c:=hk3.cell; have hk3f:=hk3.free)
     | (go_at_call_of 104 (Value.slice A2 N.inputs.length c2); refine (oa _ _ _ (HN.out.below (Below.then_ HBa.out hbb')) (by omega)).mono ?_; rintro e wc ⟨vc,rfl,hoc,hbc⟩; obtain ⟨Ac,cc,rfl⟩:=hoc.shape; have hbc':=Below.then_ hbb' hbc)
     | (go_at_call_of 104 (Value.slice A2 N.inputs.length c2); refine (oa _ _ _ (HN.out.below (Below.then_ HBa.out (hbb'.alloc hbb'.size _))) (by omega)).mono ?_; rintro e wc ⟨vc,rfl,hoc,hbc⟩; obtain ⟨Ac,cc,rfl⟩:=hoc.shape; have hbc':=Below.then_ (hbb'.alloc hbb'.size _) hbc; have hne1:w.heap.size ≠ wb.heap.size:=(by have:=hbb'.size; omega); have hk3:=Blk.below (Blk.new wb 31 #[.slice none 0 0,.slice none 0 0,.slice none 0 0]) hbc; have hk3c:=hk3.cell; have hk3f:=hk3.free))
  ·go_wp2_with fail
   go_meet
   refine ⟨wc.heap.size,Ab,Ac,cb,cc,rfl,Blk.new _ _ _,hbc'.size,(hob.below hbc).alloc _,(hoc.mono hbb'.size).alloc _,fun g h1 h2=>?_,hbc'.alloc hbc'.size _⟩;have a1:=(hob.blk g h1).2;have a2:=(hoc.blk g h2).1;omega
  ·go_wp2_with fail
   go_meet
   simp only [World.size_alloc] at hoc;refine ⟨wb.heap.size,Ab,Ac,cb,cc,rfl,Bp hk3,hbb'.size,OwnI.keepO (w:=wc) ?_ fun b hb=>lu _ _ _ _ _ ?_,OwnI.keepO (w:=wc) (hoc.mono (by have:=hbb'.size; omega)) fun b hb=>lu _ _ _ _ _ ?_,fun g h1 h2=>?_,uc hbc' hbb'.size _ _ _⟩
   ·exact (hob.below ((Below.refl _ _).alloc (Nat.le_refl _) _)).below hbc
   ·have a1:=(hob.blk b hb).2; omega
   ·have a2:=(hoc.blk b hb).1; omega
   ·have a1:=(hob.blk g h1).2;have a2:=(hoc.blk g h2).1;omega
  ·go_wp2_with fail
   go_meet
   have hob':OwnI wb (wa.heap.size + 1) (.slice Ab N.ids.length cb) N.ids:=by simpa using hob
   have hz:wa.heap.size + 1 ≤ wb.heap.size:=by have:=hbb.size; simpa using this
   refine ⟨wa.heap.size,Ab,Ac,cb,cc,rfl,Bp hk3,Nat.le_refl _,OwnI.keepO (w:=wc) ((hob'.mono (by omega)).below hbc) fun b hb=>lu _ _ _ _ _ ?_,OwnI.keepO (w:=wc) (hoc.mono hbb'.size) fun b hb=>lu _ _ _ _ _ ?_,fun g h1 h2=>?_,uc hbc' (Nat.le_refl _) _ _ _⟩
   ·have a1:=(hob'.blk b hb).1; omega
   ·have a2:=(hoc.blk b hb).1; omega
   ·have a1:=(hob'.blk g h1).2;have a2:=(hoc.blk g h2).1;omega
 case rest =>
  obtain ⟨b3,Ab,Ac,cb,cc,rfl,hk3,hb3,ho1,ho2,hdd,hbW⟩:=hcut;have HO1:=Lib.hid ho1;have HO2:=Lib.hid ho2;have HK3:=Lib.hid hk3;have HBW:=Lib.hid hbW;have HDD:=Lib.hid hdd;have kb:=(HKa.out.below hbW).cell;have hb3W:b3 < wc.heap.size:=hk3.lt;clear ho1 ho2 hk3 hdd hbW
  go_wp2_with fail
  clear kb
  go_loopw [16] (fun vi wr=>∃ (k:Nat) (A0:Option Addr) (c0:Nat),k ≤ N.ends.length ∧ vi = .int .i64 k ∧ Blk wr b3 31 #[.slice A0 k c0,.slice Ab N.ids.length cb,.slice Ac N.inputs.length cc] ∧
   OwnEs wr wa.heap.size (.slice A0 k c0) (N.ends.take k) ∧ OwnI wr wa.heap.size (.slice Ab N.ids.length cb) N.ids ∧ OwnI wr wa.heap.size (.slice Ac N.inputs.length cc) N.inputs ∧ Below wa.heap.size wa wr)
   (fun vi _=>N.ends.length - (intOf vi).toNat)
  case atStart=>exact ⟨0,none,0,Nat.zero_le _,rfl,HK3.out,by simpa using OwnEs.nil,HO1.out,HO2.out,HBW.out⟩
  case round =>
   clear HO1 HO2 HK3;obtain ⟨k,A0,c0,hk,rfl,hk3,hes,ho1,ho2,hbr⟩:=hrel;have HK3:=Lib.hid hk3;have HO1:=Lib.hid ho1;have HO2:=Lib.hid ho2;have HBR:=Lib.hid hbr;have hbz:wa.heap.size ≤ wr.heap.size:=hbr.size;have hb3r:b3 < wr.heap.size:=hk3.lt;obtain ⟨us,hrow,hin,hdis⟩:=hes;have hlk:(N.ends.take k).length = k:=by simp; omega
   rw [hlk] at hrow;have HROW:=Lib.hid hrow;have HIN:=Lib.hid hin;have HDS:=Lib.hid hdis;clear hk3 ho1 ho2 hbr hrow hin hdis
   by_cases hlt:k < N.ends.length
   ·obtain ⟨b,off,rfl,-,hc⟩:=HX.out (by omega);obtain ⟨u,hu,hur⟩:=hc k hlt;have hu':wr.cell? ⟨b,off + k,none⟩ = some u:=((Below.then_ HBa.out HBR.out).cell (p:=⟨b,off + k,none⟩) (a8 hu)).trans hu;have HUR:=Lib.hid (hur.below (Below.then_ HBa.out HBR.out));obtain ⟨A5,c5,rfl,-,-,-⟩:=hur;have hl5:=HS2.out k hlt;clear hu hc
    go_wp2_with fail
    have kS:wr.cell? ⟨b3,0,none⟩ = some (.slice A0 k c0):=by rw [HK3.out.cell]; rfl
    have hneb:(Value.slice A0 k c0).ownBlock ≠ some b3:=fun e=>by
     rcases HROW.out.2 with ⟨h1,_⟩ | ⟨g',cap,cur,h1,_,hh,_⟩
     ·cases h1; cases e
     ·cases h1; cases e;have:=HK3.out;unfold Blk at this;rw [hh] at this;simp at this
    have hnew:(Value.slice A0 k c0).ownBlock ≠ some wr.heap.size:=fun e=>by
     have:=(World.ownsRow.lt HROW.out _ e).2; omega
    go_region_law (first
     | (refine xz _ rfl (.tmp 22) (.tmp 23) rfl wr.heap.size (.slice (some ⟨wr.heap.size,0,none⟩) 0 0) [] (by simp [go_sem]) (OwnE.made (w:=wr) #[] rfl (Nat.le_refl _)) (.slice A5 (gl N.ends k).length c5) (gl N.ends k) (by simp [go_sem]) (HUR.out.below ((Below.refl _ _).alloc (Nat.le_refl _) _).drew) (by simp; omega) (by simp) ?_; intro A7 c7 w7 ho7 hg7 hl7; go_must (have hk7:Blk w7 b3 31 #[.slice A0 k c0,.slice Ab N.ids.length cb,.slice Ac N.inputs.length cc]:=(hg7.block b3 (by simp; omega) (by simp [Value.ownBlock]; omega)).trans ((Below.heap_alloc wr _ _ hb3r).trans HK3.out); have kS7:w7.cell? ⟨b3,0,none⟩ = some (.slice A0 k c0):=(by rw [hk7.cell]; rfl); have hz7:wr.heap.size + 1 ≤ w7.heap.size:=(by have:=hg7.size; simpa using this); have hr7:w7.ownsRow wa.heap.size 95 1 (.slice A0 k c0) k ((List.range k).map us):=World.ownsRow.kept (World.ownsRow.drew (World.ownsRow.alloc HROW.out (.cells #[] 97))) hg7 (.inr hnew); have kS9:(w7.alloc (.cells #[.slice A7 (gl N.ends k).length c7] 95)).cell? ⟨b3,0,none⟩ = some (.slice A0 k c0):=(World.cell?_of_block (w:=w7) (Below.heap_alloc w7 _ _ hk7.lt)).trans kS7))
     | (refine v7 _ rfl (.tmp 21) (.tmp 25) rfl wa.heap.size (.slice A0 k c0) k ((List.range k).map us) (by simp [go_sem]) (World.ownsRow.alloc hr7 _) w7.heap.size A7 (gl N.ends k).length c7 (by simp [go_sem]) (Blk.new w7 _ _) (by omega) (by simp; omega) ?_; intro A8 c8 w8 hr8 hg8 hl8; have hk8:Blk w8 b3 31 #[.slice A0 k c0,.slice Ab N.ids.length cb,.slice Ac N.inputs.length cc]:=(hg8.block b3 (by simp; omega) (Ne.symm hneb)).trans (hk7.alloc _); have hk8c:=hk8.cell; have hk8f:=hk8.free))
    all_goals
     have hX1:Below wr.heap.size wr (wr.alloc (.cells #[] 97)).drew:=((Below.refl _ _).alloc (Nat.le_refl _) _).drew;have hB7:Below wr.heap.size wr w7:=hX1.grown hg7 hX1.size (fun j hj=>by cases hj; exact Nat.le_refl _);have hB7a:Below wr.heap.size wr (w7.alloc (.cells #[.slice A7 (gl N.ends k).length c7] 95)):=hB7.alloc (by omega) _
     have hu7:OwnE (w7.alloc (.cells #[.slice A7 (gl N.ends k).length c7] 95)) wr.heap.size (.slice A7 (gl N.ends k).length c7) (gl N.ends k):=by
      have h7:OwnE w7 wr.heap.size (.slice A7 (gl N.ends k).length c7) (gl N.ends k):=by simpa using ho7
      exact h7.below ((Below.refl _ _).alloc (Nat.le_refl _) _)
     have hes8:OwnEs w8 wa.heap.size (.slice A8 (k + 1) c8) (N.ends.take (k + 1)):=by
      have:=OwnEs.push (w0:=wr) (B:=wa.heap.size) (v:=.slice A0 k c0) (ess:=N.ends.take k) (es:=gl N.ends k) (us:=us) (by rw [hlk]; exact HROW.out) HIN.out HDS.out hB7a hu7 hbz (by rw [hlk]; exact hr8) hg8;rw [jg hlt] at this;rwa [List.take_succ_eq_append_getElem hlt]
     have hkb8:KeptBut 95 wr w8:=(KeptBut.of_below hB7a).trans (KeptBut.of_grown hg8 (Wl (World.ownsRow.alloc hr7 _)));have hkb9:KeptBut 31 w8 (w8.setCell ⟨b3,0,none⟩ (.slice A8 (k + 1) c8)):=KeptBut.of_set (p:=⟨b3,0,none⟩) (show w8.heap[b3]? = _ from hk8) _
     have HR:Hid (Blk (w8.setCell ⟨b3,0,none⟩ (.slice A8 (k + 1) c8)) b3 31 #[.slice A8 (k + 1) c8,.slice Ab N.ids.length cb,.slice Ac N.inputs.length cc] ∧ OwnEs (w8.setCell ⟨b3,0,none⟩ (.slice A8 (k + 1) c8)) wa.heap.size (.slice A8 (k + 1) c8) (N.ends.take (k + 1)) ∧
      OwnI (w8.setCell ⟨b3,0,none⟩ (.slice A8 (k + 1) c8)) wa.heap.size (.slice Ab N.ids.length cb) N.ids ∧ OwnI (w8.setCell ⟨b3,0,none⟩ (.slice A8 (k + 1) c8)) wa.heap.size (.slice Ac N.inputs.length cc) N.inputs ∧ Below wa.heap.size wa (w8.setCell ⟨b3,0,none⟩ (.slice A8 (k + 1) c8))):=by
      refine ⟨hk8.put 0 _,hes8.but hkb9 (by decide) (by decide),(HO1.out.but hkb8 (by decide)).but hkb9 (by decide),(HO2.out.but hkb8 (by decide)).but hkb9 (by decide),?_⟩;exact ((HBR.out.trans (hB7a.mono hbz)).grown hg8 (by simp; omega) (fun j hj=>(World.ownsRow.lt HROW.out j hj).1)).setCell hb3 _
     clear hX1 hB7 hB7a hu7 hes8 hkb8 hkb9 hk8 hk8c hk8f hg8 hr8 hl8 hg7 ho7 hl7 hk7 kS7 kS9 hz7 hr7
     go_wp2_with fail
     go_roundw
     case rel=>exact ⟨k + 1,A8,c8,by omega,by go_num,HR.out⟩
     case measure=>simp [intOf]; omega
   ·obtain rfl:k = N.ends.length:=by omega
    have hes:OwnEs wr wa.heap.size (.slice A0 N.ends.length c0) N.ends:=by
     have h1:N.ends.take N.ends.length = N.ends:=List.take_length;rw [h1] at HIN HDS;exact ⟨us,HROW.out,HIN.out,HDS.out⟩
    have HES:=Lib.hid hes;have hra:=HRa.out.below HBR.out;have hlt1:w.heap.size + 1 < wa.heap.size:=HRa.out.lt;have k3:=HK3.out.cell;have k2:=hra.cell;have f2:=hra.free;have HRA:=Lib.hid (Bp (x:=.slice A0 N.ends.length c0) (y:=.slice Ab N.ids.length cb) (z:=.slice Ac N.inputs.length cc) hra);have hkp:∀ b,wa.heap.size ≤ b → b < wr.heap.size → (So wr (w.heap.size + 1) (.slice A0 N.ends.length c0) (.slice Ab N.ids.length cb) (.slice Ac N.inputs.length cc)).heap[b]? = wr.heap[b]?:=fun b hb _=>lu _ _ _ _ _ (by omega);have HKP:=Lib.hid hkp;have HBE:=Lib.hid (uc (p:=w.heap.size + 1) (Below.then_ HBa.out HBR.out) (by omega) (.slice A0 N.ends.length c0) (.slice Ab N.ids.length cb) (.slice Ac N.inputs.length cc));clear hes hra hkp hlk
    go_wp2_with fail
    have hcc:=HRA.out.cell;unfold So at hcc;refine bodyPost_ret (v:=.agg #[.slice A0 N.ends.length c0,.slice Ab N.ids.length cb,.slice Ac N.inputs.length cc]) ?_ rfl ?_
    ·simp [results,Tryz.results132,go_sem,hcc]
    ·exact ⟨_,rfl,⟨_,_,_,rfl,(HES.out.keepB HKP.out).mono (by omega),(HO1.out.keepB HKP.out).mono (by omega),(HO2.out.keepB HKP.out).mono (by omega),HDD.out⟩,HBE.out⟩
end Go.Proofs.YtfknckinfcicbaaGreat
