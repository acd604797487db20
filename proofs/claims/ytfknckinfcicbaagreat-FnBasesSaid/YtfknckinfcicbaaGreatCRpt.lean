/- The library's Repeat at a slice of one number. -/
import Derived.Test.YtfknckinfcicbaaGreatCIm1
import Derived.Test.YtfknckinfcicbaaGreatCJn9
import Derived.Test.YtfknckinfcicbaaGreatCShelf
import Derived.Laws.CopyOwn
import Derived.Deep.RegionHeld3
set_option linter.unusedSimpArgs false
set_option linter.unusedVariables false
namespace Go.Proofs.YtfknckinfcicbaaGreat
open Go.RowKit
theorem J4 (n:Nat) (hn:n ≤ 2097152) (w:World):Calls Tryz.prog 149 #[.int .u64 1,.int .u64 n] w (RetQ w (.tuple #[.int .u64 0,.int .u64 n])):=by
 have C:=Tryz.bits_Mul 1 n (by omega) (by omega) w;refine C.mono ?_;rintro e w1 ⟨rfl,rfl⟩;have e1:1 * n / 18446744073709551616 = 0:=by omega
 have e2:1 * n % 18446744073709551616 = n:=by omega
 rw [e1,e2];exact ⟨rfl,rfl⟩
def ey (x:Int) (n m:Nat):List Value:=ic (List.replicate m x ++ List.replicate (n - m) 0)
theorem ni {x:Int} {n m:Nat} (h:m ≤ n):(ey x n m).length = n:=by simp [ey,ic]; omega
theorem tp {x:Int} {n m k:Nat} (h:m + k ≤ n):splice (ey x n m) m (ic (List.replicate k x)) = ey x n (m + k):=by
 unfold splice ey ic;simp only [List.map_append,List.map_replicate,List.length_replicate];rw [List.take_append_of_le_length (by simp),List.take_of_length_le (by simp),List.drop_append,List.drop_eq_nil_of_le (by simp)];simp only [List.length_replicate,List.nil_append,List.drop_replicate];rw [← List.append_assoc,List.replicate_append_replicate]
 congr 2; omega
theorem B6 {x:Int} {n m j:Nat} (h:j < m):(ey x n m)[j]? = some (.int .i64 x):=by
 unfold ey ic;rw [List.map_append,List.getElem?_append_left (by simpa using h)];simp [h]
theorem It (x:Int) (n:Nat):(ey x n 0).toArray = madeCells #[.int .i64 0] n:=by
 apply Array.ext
 ·rw [size_madeCells]; simp [ey,ic]
 ·intro i h1 h2;simp [ey,ic,madeCells,Nat.mod_one]
def jc0 (cs:List Value) (A B:Addr) (W:World):Prop:=0 < cs.length → (some A) = some A ∧ ∃ ad,(some B) = some ad ∧ ∀ j v,cs[j]? = some v → W.cell? (ad.add j) = some v
theorem Uj {x:Int} {n j:Nat} (h:j < n):gi (List.replicate n x) j = x:=by simp [gi,h]
set_option maxRecDepth 100000 in
set_option maxHeartbeats 1000000 in
theorem Mr (x:Int) (b off c n:Nat) (w:World) (hc:w.cell? ⟨b,off,none⟩ = some (.int .i64 x)) (hn:n ≤ 2097152) :
 Calls Tryz.prog 125 #[.slice (some ⟨b,off,none⟩) 1 c,.int .i64 n] w (Vs w (List.replicate n x)):=by
 have hmk:=fun W=>Go.run_make_row' (P:=Tryz.prog) 26 3 (.int .i64 0) 8 Tryz.underlying26 sn rfl .i64 .i64 n (by omega) (by omega) W;have HC:=Lib.hid hc;have hbw:=a8 hc;clear hc;obtain ⟨cs,q,hcs,hql,hq1,hq2⟩:∃ (cs:List Value) (q:Nat),cs = ic (List.replicate q x) ∧ cs.length = q ∧ q = Nat.min 1 n ∧ q ≤ n:=⟨_,min 1 n,rfl,by simp [ic],rfl,Nat.min_le_right _ _⟩;have HCS:=Lib.hid hcs;have HQL:=Lib.hid hql;have HQ1:=Lib.hid hq1
 have HA:Hid ((w.alloc (.cells (madeCells #[.int .i64 0] n) 3)).heap[w.heap.size]? = some (.cells (ey x n 0).toArray 3 (0,0))):=by
  have:=heap_alloc_new w (.cells (madeCells #[.int .i64 0] n) 3);rw [← It x] at this ⊢;exact this
 have HCA:Hid ((w.alloc (.cells (madeCells #[.int .i64 0] n) 3)).cell? ⟨b,off,none⟩ = some (.int .i64 x)):=by
  have hb:Below w.heap.size w (w.alloc (.cells (madeCells #[.int .i64 0] n) 3)):=(Below.refl _ _).alloc (Nat.le_refl _) _;exact (hb.cell (p:=⟨b,off,none⟩) hbw).trans HC.out
 clear hcs hql hq1;have SN:=Lib.hid (HQL.out.trans HQ1.out)
 have SP:Hid (jc0 cs ⟨w.heap.size,0,none⟩ ⟨b,off,none⟩ (w.alloc (.cells (madeCells #[.int .i64 0] n) 3))):=by
  intro _;refine ⟨rfl,_,rfl,fun j v hj=>?_⟩;have hq:q ≤ 1:=by rw [HQ1.out]; exact Nat.min_le_left _ _
  obtain rfl:j = 0:=by
   have:=(List.getElem?_eq_some_iff.1 hj).1;rw [HQL.out] at this; omega
  rw [HCS.out] at hj
  have:v = .int .i64 x:=by
   cases q with
   | zero=>simp [ic] at hj
   | succ q=>simp [ic,List.replicate_succ] at hj; exact hj.symm
  rw [this];exact HCA.out
 have SF:Hid (0 + cs.length ≤ (ey x n 0).length):=by show 0 + cs.length ≤ (ey x n 0).length; rw [HQL.out,ni (Nat.zero_le _)]; omega
 have S1:Hid (∀ v ∈ cs,v.oneCell' = true):=by
  intro v hv;rw [HCS.out] at hv;simp [ic] at hv;rw [hv.2]; rfl
 have SB:Hid (Below w.heap.size w (w.alloc (.cells (madeCells #[.int .i64 0] n) 3))):=(Below.refl _ _).alloc (Nat.le_refl _) _;have d1:decide ((n:Int) < 0) = false:=by simp
 have d2:decide ((9223372036854775807:Int) < (n:Int)) = false:=by simp; omega
 go_enter Tryz.func125,Tryz.ntmps125
 go_upto_region 7 with ((go_at_call 149; refine (J4 n hn _).mono ?_; rintro e w1 ⟨rfl,rfl⟩))
 go_wp2_with (refine wpList_copy_splice (o:=⟨some 33,_,_,_,_,_⟩) rfl (.tmp 31) (.tmp 32) 26 26 rfl 3 Tryz.underlying26 (by kernel_rfl) _ _ _ _ _ _ rfl rfl w.heap.size 0 (ey x n 0) 3 HA.out cs SN.out SP.out SF.out S1.out w.heap.size w SB.out (Nat.le_refl _) ?_; intro w2 hg2 hb2; rw [HQL.out])
 have HG2:Hid (w2.heap[w.heap.size]? = some (.cells (ey x n q).toArray 3 (0,0))):=by
  have:=hg2.out;rw [HCS.out,tp (by omega),Nat.zero_add] at this;exact this
 have HB2:=Lib.hid hb2;have hq3:0 < n → 0 < q:=fun h=>by rw [HQ1.out]; exact Nat.lt_min.2 ⟨by omega,h⟩
 have HQ3:=Lib.hid hq3;clear hg2 hb2 hq3 HA HCA SN SP SF S1 SB HCS HQL HQ1 hmk d1 d2
 go_loopw [8] (fun vm wr=>∃ m:Nat,vm = .int .i64 m ∧ m ≤ n ∧ (0 < n → 0 < m) ∧ wr.heap[w.heap.size]? = some (.cells (ey x n m).toArray 3 (0,0)) ∧ Below w.heap.size w wr) (fun vm _=>n - (intOf vm).toNat)
 case atStart=>exact ⟨q,by first | rfl | go_num,hq2,HQ3.out,HG2.out,HB2.out⟩
 case round =>
  obtain ⟨m,rfl,hm,hm0,hg,hb⟩:=hrel;have HG:=Lib.hid hg;have HB:=Lib.hid hb;clear hg hb HG2 HB2 HQ3
  by_cases hlt:m < n
  ·have hmp:=hm0 (by omega);clear hm0;obtain ⟨k,hk⟩:∃ k,k = Nat.min m (n - m):=⟨_,rfl⟩;have hk1:0 < k:=by rw [hk]; exact Nat.lt_min.2 ⟨hmp,by omega⟩
   have hk2:k ≤ n - m:=by rw [hk]; exact Nat.min_le_right _ _
   have hk3:k ≤ m:=by rw [hk]; exact Nat.min_le_left _ _
   obtain ⟨ds,hds,hdl⟩:∃ ds:List Value,ds = ic (List.replicate k x) ∧ ds.length = k:=⟨_,rfl,by simp [ic]⟩;have HDS:=Lib.hid hds;have HDL:=Lib.hid hdl;have SN:=Lib.hid (hdl.trans hk);have SF:Hid (m + ds.length ≤ (ey x n m).length):=by show m + ds.length ≤ (ey x n m).length; rw [hdl,ni hm]; omega
   have S1:Hid (∀ v ∈ ds,v.oneCell' = true):=by
    intro v hv;rw [hds] at hv;simp [ic] at hv;rw [hv.2]; rfl
   have SP:Hid (jc0 ds ⟨w.heap.size,m,none⟩ ⟨w.heap.size,0,none⟩ wr.drew):=by
    intro _;refine ⟨rfl,_,rfl,fun j v hj=>?_⟩
    have hjk:j < k:=by
     have:=(List.getElem?_eq_some_iff.1 hj).1;rw [HDL.out] at this; omega
    rw [HDS.out] at hj
    have:v = .int .i64 x:=by
     have h2:=yw (xs:=List.replicate k x) (j:=j) (by simpa using hjk);rw [Uj hjk] at h2;rw [h2] at hj;cases hj; rfl
    rw [this,xm];show wr.cell? _ = _;rw [Nat.zero_add,cell_of_row wr w.heap.size j _ _ (0,0) HG.out];simpa using B6 (x:=x) (n:=n) (m:=m) (j:=j) (by omega)
   have hw1:IntKind.i64.wrap ((m:Int) + (ds.length:Int)) = (m:Int) + (ds.length:Int):=IntWalk.i64_in _ (by have:=HDL.out; omega);have i1:(0:Int) ≤ (m:Int):=by omega
   have i2:(m:Int) ≤ (n:Int):=by omega
   have i3:¬ n = m:=by omega
   have HG':Hid (wr.drew.heap[w.heap.size]? = some (.cells (ey x n m).toArray 3 (0,0))):=HG.out;have HB':=Lib.hid HB.out.drew;clear hds hdl hk
   go_wp2_with fail
   go_region_law (refine step_copy_splice rfl (.tmp 41) (.tmp 44) 26 26 rfl 3 Tryz.underlying26 (by kernel_rfl) (some ⟨w.heap.size,m,none⟩) (some ⟨w.heap.size,0,none⟩) (n - m) (n - m) m n ?hd ?hs w.heap.size m (ey x n m) 3 HG'.out ds SN.out SP.out SF.out S1.out w.heap.size w HB'.out (Nat.le_refl _) ?hK; (case hd=>simp [go_sem]); (case hs=>simp [go_sem]); intro w2 hg2 hb2)
   have HG2:Hid (w2.heap[w.heap.size]? = some (.cells (ey x n (m + k)).toArray 3 (0,0))):=by
    have:=hg2.out;rw [HDS.out,tp (by omega)] at this;exact this
   have HB2:=Lib.hid hb2;clear hg2 hb2;simp [Act.put]
   go_wp2_with fail
   go_roundw
   case rel=>exact ⟨m + k,congrArg (Value.int .i64) (by have:=HDL.out; omega),by omega,fun _=>by omega,HG2.out,HB2.out⟩
   case measure=>have:=HDL.out; simp [intOf]; omega
  ·obtain rfl:m = n:=by omega
   go_wp2_with fail
   go_ret
   refine ⟨_,rfl,?_,HB.out⟩;have hlen:(List.replicate m x).length = m:=by simp
   have:=OwnI.of_rowIs (w:=wr) (B:=w.heap.size) (g:=w.heap.size) (n:=m) (xs:=List.replicate m x) ⟨(ey x m m).toArray,HG.out,by simp [ni (Nat.le_refl m)],fun i hi=>by
    have e1:=Uj (x:=x) hi;simp only [e1]
    simpa using B6 (x:=x) (n:=m) hi⟩ hlen (Nat.le_refl _) (by unfold maxLen; omega)
   exact this
end Go.Proofs.YtfknckinfcicbaaGreat
