/- Parts of the proof. -/
import Derived.Test.YtfknckinfcicbaaGreatCIm1
import Derived.Test.YtfknckinfcicbaaGreatCJn9
import Derived.Sort.OwnSortedInts
set_option linter.unusedSimpArgs false
set_option linter.unusedVariables false
namespace Go.Proofs.YtfknckinfcicbaaGreat
section
open Go.RowKit
theorem Ri {S:Nat → Prop} (v:Value) (xs:List Int) (w:World) (h:IntsR w S v xs) (hn:xs.length ≤ 2097152) :
 Calls Tryz.prog 101 #[v] w (Vs w xs):=by
 obtain ⟨A,c,rfl,hnc,hm,hx⟩:=h
 rcases A with _ | ad
 ·have h0:xs.length = 0:=by
   rcases Nat.eq_zero_or_pos xs.length with h | h
   ·exact h
   ·obtain ⟨b,off,hA,_⟩:=hx h;cases hA
  obtain rfl:xs = []:=List.eq_nil_of_length_eq_zero h0;refine (Tryz.slices_Clone_int_nil _ _ w).mono ?_;rintro e w' ⟨rfl,rfl⟩;exact ⟨_,rfl,World.ownsRow_nil _ _ _ _,Below.refl _ _⟩
 ·rcases Nat.eq_zero_or_pos xs.length with h0 | h0
  ·obtain rfl:xs = []:=List.eq_nil_of_length_eq_zero h0;refine (Tryz.slices_Clone_int_zero ad c w).mono ?_;rintro e w' ⟨v',rfl,ho,-,hb⟩;exact ⟨_,rfl,ho,hb⟩
  ·obtain ⟨b,off,hA,-,hc⟩:=hx h0
   injection hA with hA
   subst hA;refine (Tryz.slices_Clone_int b off xs.length c xs w (Nat.le_refl _) (by omega) hc).mono ?_;rintro e w' ⟨v',rfl,ho,-,hb⟩;rw [List.take_length] at ho;exact ⟨_,rfl,ho,hb⟩
def sorted (xs:List Int):List Int:=xs.mergeSort fun x y=>decide (x ≤ y)
theorem tj (xs:List Int):(sorted xs).length = xs.length:=List.length_mergeSort ..
def X5 (w:World) (B:Nat) (v:Value) (ys:List Int) (e:Ending) (w':World):Prop:=e = .returned (.tuple #[]) ∧ OwnI w' B v ys ∧ w.grownBy w' v.ownBlock
theorem Vr (v:Value) (xs:List Int) (B:Nat) (w:World) (h:OwnI w B v xs) (hp:0 < xs.length) (hn:xs.length ≤ 2097152) :
 Calls Tryz.prog 134 #[v] w (X5 w B v (sorted xs)):=by
 obtain ⟨h1,h2⟩:=h
 rcases h2 with ⟨rfl,h0⟩ | ⟨g,cap,cur,rfl,hB,hg,hnc,hm,hs,ht⟩
 ·omega
 ·rw [Nat.mul_one] at ht;refine (Tryz.slices_Sort_int g 0 cap xs w (holds_of_blockI hg ht) (Array.getElem?_eq_some_iff.1 hg).1 (by omega)).mono ?_;rintro e w' ⟨rfl,n,os,rfl⟩;refine ⟨rfl,?_,grownBy_sortedI _⟩;have:=ownsRow_sortedI (n:=n) (os:=os) (ts:=sorted xs) (tj xs) hB hg hnc hm hs;rw [← tj xs] at this ⊢;exact this
def wl (xs:List Int) (lo hi:Int) (k:Nat):Prop:=∀ i,i < k → inB (gi xs i) lo hi = true ∧ (0 < i → gi xs (i - 1) < gi xs i)
open Classical in
noncomputable def zj (xs:List Int) (lo hi:Int):Bool:=decide (wl xs lo hi xs.length)
theorem yc {xs:List Int} {lo hi:Int}:zj xs lo hi = true ↔ wl xs lo hi xs.length:=by simp [zj]
set_option maxRecDepth 100000 in
set_option maxHeartbeats 800000 in
theorem Cp {S:Nat → Prop} (v:Value) (xs:List Int) (lo hi:Int) (w:World) (h:IntsR w S v xs) :
 Calls Tryz.prog 135 #[v,.int .i64 lo,.int .i64 hi] w (RetQ w (.bool (zj xs lo hi))):=by
 have hb:=h.bound;obtain ⟨A,c,rfl,hnc,hm,hx⟩:=h;have HX:=Lib.hid hx;clear hx hm
 go_enter Tryz.func135,Tryz.ntmps135
 go_wp2
 go_loop [11] (fun i=>∃ k:Nat,k ≤ xs.length ∧ i = .int .i64 k ∧ wl xs lo hi k) (fun i=>xs.length - (intOf i).toNat)
 case atStart=>exact ⟨0,Nat.zero_le _,rfl,fun j hj=>absurd hj (Nat.not_lt_zero _)⟩
 case round =>
  obtain ⟨k,hk,rfl,hs⟩:=hrel;have HS:=Lib.hid hs;clear hs
  by_cases hlt:k < xs.length
  ·obtain ⟨b,off,rfl,-,hc⟩:=HX.out (by omega);have h1:=hc k hlt
   have HF:¬ (inB (gi xs k) lo hi = true ∧ (0 < k → gi xs (k - 1) < gi xs k)) → Hid (zj xs lo hi = false):=fun h=>by
    show _ = false;rw [← Bool.not_eq_true,yc];exact fun h'=>h (h' k hlt)
   have HF:=Lib.hid HF;cases he:inB (gi xs k) lo hi
   ·have HT:=HF.out fun h=>by rw [he] at h; cases h.1
    have HE:=Lib.hid he;clear he hc
    go_wp2_with (go_at_call 47; refine (d8 _ _ _ _).mono ?_; rintro e w1 ⟨rfl,rfl⟩; rw [HE.out])
    go_ret
    exact ⟨by rw [HT.out]; rfl,rfl⟩
   ·have HE:=Lib.hid he;clear he
    rcases Nat.eq_zero_or_pos k with hk0 | hk0
    ·have hk1:k ≤ 0:=by omega
     clear hc hk0
     go_wp2_with (go_at_call 47; refine (d8 _ _ _ _).mono ?_; rintro e w1 ⟨rfl,rfl⟩; rw [HE.out])
     go_round
     case rel =>
      refine ⟨k + 1,by omega,by go_num,fun j hj=>?_⟩;obtain rfl:j = k:=by omega
      exact ⟨HE.out,fun h=>absurd h (by omega)⟩
     case measure=>simp [intOf]; omega
    ·obtain ⟨m,rfl⟩:∃ m,k = m + 1:=⟨k - 1,by omega⟩;have h2:=hc m (by omega);clear hc
     by_cases hr:gi xs m < gi xs (m + 1)
     ·have e1:decide (gi xs (m + 1) ≤ gi xs m) = false:=by simp; omega
      have HR:=Lib.hid hr;clear hr
      go_wp2_with (go_at_call 47; refine (d8 _ _ _ _).mono ?_; rintro e w1 ⟨rfl,rfl⟩; rw [HE.out])
      go_round
      case rel =>
       refine ⟨m + 1 + 1,by omega,by go_num,fun j hj=>?_⟩
       by_cases h1:j = m + 1
       ·subst h1; exact ⟨HE.out,fun _=>HR.out⟩
       ·exact HS.out j (by omega)
      case measure=>simp [intOf]; omega
     ·have HT:=HF.out fun h=>hr (h.2 (by omega));have e1:decide (gi xs (m + 1) ≤ gi xs m) = true:=by simp; omega
      clear hr
      go_wp2_with (go_at_call 47; refine (d8 _ _ _ _).mono ?_; rintro e w1 ⟨rfl,rfl⟩; rw [HE.out])
      go_ret
      exact ⟨by rw [HT.out]; rfl,rfl⟩
  ·have HT:Hid (zj xs lo hi = true):=by
    have hk2:k = xs.length:=by omega
    exact yc.2 (by rw [← hk2]; exact HS.out)
   go_wp2
   go_ret
   exact ⟨by rw [HT.out]; rfl,rfl⟩
end
section
open Go.RowKit
noncomputable def rn (xs:List Int) (n:Int):Bool:=xs.length == 0 || ((xs.length:Int) == n && zj (sorted xs) 1 999999)
set_option maxHeartbeats 800000 in
theorem Qp {S:Nat → Prop} (v:Value) (xs:List Int) (n:Int) (w:World) (h:IntsR w S v xs) (hn:xs.length ≤ 2097152) :
 Calls Tryz.prog 93 #[v,.int .i64 n] w (tg w (.bool (rn xs n))):=by
 have C:=Lib.hid (Ri v xs w h hn);obtain ⟨A,c,rfl,hnc,hm,-⟩:=h;unfold maxLen at hm
 rcases Nat.eq_zero_or_pos xs.length with h0 | h0
 ·have e0:((xs.length:Int) == 0) = true:=by simp [h0]
  have HT:Hid (rn xs n = true):=by simp [Hid,rn,h0]
  clear h0
  go_enter Tryz.func93,Tryz.ntmps93
  go_wp2_with fail
  go_ret
  exact ⟨by rw [HT.out]; rfl,Below.refl _ _⟩
 ·have e0:((xs.length:Int) == 0) = false:=by simp; intro h; simp [h] at h0
  have HT:Hid (rn xs n = ((xs.length:Int) == n && zj (sorted xs) 1 999999)):=by
   have:(xs.length == 0) = false:=by simp; intro h; simp [h] at h0
   simp only [Hid,rn,this,Bool.false_or]
  go_enter Tryz.func93,Tryz.ntmps93
  go_wp2_with fail
  refine C.out.mono ?_;rintro e w1 ⟨u,rfl,ho,hb1⟩;have CS:=Lib.hid (Vr u xs _ w1 ho h0 hn);have HO:=Lib.hid ho;have HB1:=Lib.hid hb1;clear ho hb1
  go_wp2_with fail
  refine CS.out.mono ?_;rintro e w2 ⟨rfl,ho2,hg2⟩;have HB2:=Lib.hid (zy HB1.out HO.out hg2 HB1.out.size);have CI:=Lib.hid (Cp u (sorted xs) 1 999999 w2 ho2.ints);clear ho2 hg2
  by_cases hl:(xs.length:Int) = n
  ·have e1:((xs.length:Int) == n) = true:=by simp [hl]
   have HL:=Lib.hid e1;clear hl
   go_wp2_with (go_at_call 135; refine CI.out.mono ?_; rintro e w3 ⟨rfl,rfl⟩)
   go_ret
   exact ⟨by rw [HT.out,HL.out,Bool.true_and]; rfl,HB2.out⟩
  ·have e1:((xs.length:Int) == n) = false:=by simp [hl]
   have HL:=Lib.hid e1;clear hl
   go_wp2_with (go_at_call 135; refine CI.out.mono ?_; rintro e w3 ⟨rfl,rfl⟩)
   go_ret
   exact ⟨by rw [HT.out,HL.out,Bool.false_and]; rfl,HB2.out⟩
set_option maxHeartbeats 800000 in
theorem Gr {S:Nat → Prop} (v:Value) (xs:List Int) (n:Int) (w:World) (h:IntsR w S v xs) :
 Calls Tryz.prog 94 #[v,.int .i64 n] w (tg w (.bool ((xs.length:Int) == n && qq xs 0 9))):=by
 have C:=Lib.hid (Dz v xs 0 9 w h);obtain ⟨A,c,rfl,hnc,hm,-⟩:=h;unfold maxLen at hm
 by_cases hl:(xs.length:Int) = n
 ·have e1:((xs.length:Int) == n) = true:=by simp [hl]
  have HL:=Lib.hid e1;clear hl
  go_enter Tryz.func94,Tryz.ntmps94
  go_wp2_with (go_at_call 69; refine C.out.mono ?_; rintro e w3 ⟨rfl,hb⟩; have HB:=Lib.hid hb; clear hb)
  go_ret
  exact ⟨by rw [HL.out,Bool.true_and]; rfl,HB.out⟩
 ·have e1:((xs.length:Int) == n) = false:=by simp [hl]
  have HL:=Lib.hid e1;clear hl
  go_enter Tryz.func94,Tryz.ntmps94
  go_wp2_with fail
  go_ret
  exact ⟨by rw [HL.out,Bool.false_and]; rfl,Below.refl _ _⟩
set_option maxHeartbeats 800000 in
theorem zt (A:Option Addr) (n c:Nat) (vi vn:Value) (x:Int) (w:World) (hn:n ≤ 9223372036854775807) :
 Calls Tryz.prog 136 #[.agg #[.slice A n c,vi,vn],.int .i64 x] w (tg w (.bool (inB x 0 ((n:Int) - 1)))):=by
 have hb0:∀ o1,Below w.heap.size w (w.alloc o1):=fun o1=>(Below.refl _ _).alloc (Nat.le_refl _) _;have HB0:=Lib.hid hb0;clear hb0
 go_enter Tryz.func136,Tryz.ntmps136
 go_wp2_with (go_at_call 47; refine (d8 _ _ _ _).mono ?_; rintro e w1 ⟨rfl,rfl⟩)
 go_ret
 exact ⟨rfl,HB0.out _⟩
def zn (N:Net) (v i:Int):Bool:=inB v 0 ((N.ends.length:Int) - 1) && inB i 0 (((gl N.ends v.toNat).length:Int) - 1)
set_option maxRecDepth 100000 in
set_option maxHeartbeats 800000 in
theorem Jd {S:Nat → Prop} (v:Value) (N:Net) (x i:Int) (w:World) (h:NetR w S v N) :
 Calls Tryz.prog 95 #[v,.int .i64 x,.int .i64 i] w (tg w (.bool (zn N x i))):=by
 obtain ⟨ve,vi,vn,rfl,he,hi,hn⟩:=h;obtain ⟨A,c,rfl,hnc,hm,hx⟩:=he;obtain ⟨A1,c1,rfl,-,-,-⟩:=hi;obtain ⟨A2,c2,rfl,-,-,-⟩:=hn;unfold maxLen at hm;have hb0:∀ o1,Below w.heap.size w (w.alloc o1):=fun o1=>(Below.refl _ _).alloc (Nat.le_refl _) _;have HB0:=Lib.hid hb0;have HX:=Lib.hid hx;clear hb0 hx;cases h1:inB x 0 ((N.ends.length:Int) - 1)
 ·have HT:Hid (zn N x i = false):=by simp [Hid,zn,h1]
  have H1:=Lib.hid h1;clear h1
  go_enter Tryz.func95,Tryz.ntmps95
  go_wp2_with (go_at_call 136; refine (zt _ _ _ _ _ _ _ (by omega)).mono ?_; rintro e w1 ⟨rfl,hb1⟩; rw [H1.out]; have HB1:=Lib.hid (Below.then_ (HB0.out _) hb1); clear hb1)
  go_ret
  exact ⟨by rw [HT.out]; rfl,HB1.out⟩
 ·have HT:Hid (zn N x i = inB i 0 (((gl N.ends x.toNat).length:Int) - 1)):=by simp only [Hid,zn,h1,Bool.true_and]
  obtain ⟨hp1,hp2⟩:=db.1 h1;have hat:x.toNat < N.ends.length:=by omega
  obtain ⟨b,off,rfl,-,hc⟩:=HX.out (by omega);obtain ⟨u,hu,A3,c3,rfl,hn3,hm3,-⟩:=hc x.toNat hat;unfold maxLen at hm3;have H1:=Lib.hid h1;clear h1 hc
  go_enter Tryz.func95,Tryz.ntmps95
  go_wp2_with fail
  refine (zt _ _ _ _ _ _ _ (by omega)).mono ?_;rintro e w1 ⟨rfl,hb1⟩;rw [H1.out];have k1:=jbd hb1;have hb2:=Below.then_ (HB0.out _) hb1;have hd:w1.cell? ⟨b,off + x.toNat,none⟩ = some (.slice A3 (gl N.ends x.toNat).length c3):=by rw [hb2.cell (by exact a8 hu)]; exact hu
  have HB2:=Lib.hid hb2;clear hb1 hb2 hu
  go_wp2_with (go_at_call 47; refine (d8 _ _ _ _).mono ?_; rintro e w1 ⟨rfl,rfl⟩)
  go_ret
  exact ⟨by rw [HT.out]; rfl,HB2.out⟩
end
end Go.Proofs.YtfknckinfcicbaaGreat
