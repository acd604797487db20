/- Parts of the proof. -/
import Derived.Test.YtfknckinfcicbaaGreatCJn9
import Derived.Lib.Slices
import Derived.Test.YtfknckinfcicbaaGreatCJn7
import Derived.ProofKit
import Derived.Deep.SlicePairs
import Derived.Lib.SmallJoins
import Derived.RegionTactic
import Derived.ChangeAlike
import Derived.Test.YtfknckinfcicbaaGreatCSp2
import Derived.Lib.BitFns
set_option linter.unusedSimpArgs false
set_option linter.unusedVariables false
namespace Go.Proofs.YtfknckinfcicbaaGreat
section
def shl (l:List Int) (D k:Nat):List Int:=tab D fun d=>cnt k fun j=>gi l j == d
end
section
def ct (b:Nat → Bool):Nat → Nat
 | 0=>0
 | n + 1=>ct b n + if b n = true then 1 else 0
section
variable {p q:Nat → Nat} {n:Nat}
end
end
section
open Go.RowKit
set_option maxRecDepth 100000 in
set_option maxHeartbeats 1000000 in
theorem Iz (n:Nat) (w:World) (hn:n ≤ 262144):Calls Tryz.prog 129 #[.int .i64 n] w (Yv w (dn n)):=by
 have hm1:=fun W=>Go.run_make_row' (P:=Tryz.prog) 26 3 (.int .i64 0) 8 Tryz.underlying26 sn rfl .i64 .i64 n (by omega) (by omega) W;have hm2:=fun W=>Go.run_make_row' (P:=Tryz.prog) 29 95 (.slice none 0 0) 24 Tryz.underlying29 Oq rfl .i64 .i64 n (by omega) (by omega) W
 go_enter Tryz.func129,Tryz.ntmps129
 go_wp2
 go_region
 all_goals clear hm1 hm2
 all_goals go_wp2
 ·refine bodyPost_ret (v:=.agg #[.slice (some ⟨w.heap.size + 1,0,none⟩) n n,.slice none 0 0,.slice (some ⟨w.heap.size + 1 + 1,0,none⟩) n n]) (by simp [results,Tryz.results129,go_sem]) rfl ?_
  generalize hX:w.alloc (.cells #[.slice (some ⟨w.heap.size + 1,0,none⟩) n n,.slice none 0 0,.slice (some ⟨w.heap.size + 1 + 1,0,none⟩) n n] 31) = X
  have hxs:X.heap.size = w.heap.size + 1:=by rw [← hX]; simp
  have hbX:Below w.heap.size w X:=by rw [← hX]; exact (Below.refl _ _).alloc (Nat.le_refl _) _
  have r1:=(World.rowIs_made X (.slice none 0 0) n 95).alloc (.cells (madeCells #[.int .i64 0] n) 3);have r2:=World.rowIs_made (X.alloc (.cells (madeCells #[.slice none 0 0] n) 95)) (.int .i64 0) n 3;simp only [World.size_alloc] at r2;rw [hxs] at r1 r2;refine ⟨_,rfl,⟨_,_,_,rfl,OwnEs.of_rowIs r1 (by omega) (by unfold maxLen; omega),OwnI.nil,?_,fun g hg=>by cases hg⟩,(((hbX.alloc (by omega) _).alloc (by simp; omega) _)).drew⟩;exact OwnI.of_rowIs (xs:=List.replicate n 0) (World.rowIs.congr r2 fun i hi=>by simp [gi,hi]) (by simp) (by omega) (by unfold maxLen; omega)
 ·refine bodyPost_ret (v:=.agg #[.slice (some ⟨w.heap.size + 1 + 1,0,none⟩) n n,.slice none 0 0,.slice (some ⟨w.heap.size + 1,0,none⟩) n n]) (by simp [results,Tryz.results129,go_sem]) rfl ?_
  generalize hX:w.alloc (.cells #[.slice (some ⟨w.heap.size + 1 + 1,0,none⟩) n n,.slice none 0 0,.slice (some ⟨w.heap.size + 1,0,none⟩) n n] 31) = X
  have hxs:X.heap.size = w.heap.size + 1:=by rw [← hX]; simp
  have hbX:Below w.heap.size w X:=by rw [← hX]; exact (Below.refl _ _).alloc (Nat.le_refl _) _
  have r2:=(World.rowIs_made X (.int .i64 0) n 3).alloc (.cells (madeCells #[.slice none 0 0] n) 95);have r1:=World.rowIs_made (X.alloc (.cells (madeCells #[.int .i64 0] n) 3)) (.slice none 0 0) n 95;simp only [World.size_alloc] at r1;rw [hxs] at r1 r2;refine ⟨_,rfl,⟨_,_,_,rfl,OwnEs.of_rowIs r1 (by omega) (by unfold maxLen; omega),OwnI.nil,?_,fun g hg=>by cases hg⟩,(((hbX.alloc (by omega) _).alloc (by simp; omega) _)).drew⟩;exact OwnI.of_rowIs (xs:=List.replicate n 0) (World.rowIs.congr r2 fun i hi=>by simp [gi,hi]) (by simp) (by omega) (by unfold maxLen; omega)
end
section
open Go.ChangeShapes Go.WideShapes Go.ChangeAt Go.RowKit Go.Deep Go.Joins
theorem Bu {H:Type} {enc:TypeId × Value → H} {P:Program} {w:World} {base:Nat} {spare:Nat → Bool} {held:Bool} {t e:TypeId} {fuel:Nat} {cs:List Value} {x:DataW H × List MemPlace} (ht:P.underlying t = some (.slice e)) (he:P.underlying e = some (.int .u8)) (hc:P.cellsOf e = 1)
 (h:DataW.trod enc P w base spare held fuel t cs = some x):∃ v L,cs = [v] ∧ Ke w v L:=by
 rcases open_slice1 ht hc h with ⟨rfl,_⟩ | ⟨a,len,cap,m,n,V,D,Pl,rfl,hb,hl,hm,hmm,_,hx⟩
 ·exact ⟨_,0,rfl,none,0,rfl,by omega,⟨by omega,by unfold maxLen; omega⟩,fun h=>absurd h (Nat.lt_irrefl _)⟩
 ·have hlm:len ≤ m:=by rw [hmm]; split <;> omega
  have hz:∀ i,i < len → ∃ z:Int,V i = .int .u8 z ∧ 0 ≤ z ∧ z ≤ 255:=fun i hi=>by
   obtain ⟨_,h2⟩:=hx i (by omega);obtain ⟨q,e1,_,hw⟩:=DataW.trod_int he h2;simp only [List.cons.injEq,and_true] at e1;simp only [Lit.wf,Bool.and_eq_true,decide_eq_true_eq] at hw;exact ⟨q,e1,hw.1,hw.2⟩
  refine ⟨_,len,rfl,some a,cap,rfl,by have:=hl; unfold maxLen at hm; omega,⟨hl,hm⟩,fun hp=>?_⟩;have h0:=(hx 0 (by omega)).1;obtain ⟨b,off,sp⟩:=a;have hsp:sp = none:=by simpa [Addr.add] using World.cell?_spot h0
  subst hsp;refine ⟨b,off,rfl,fun j hj=>?_⟩;have:=(hx j (by omega)).1;rw [add_plain] at this;obtain ⟨z,hz1,hz2,hz3⟩:=hz j hj;exact ⟨z,hz2,hz3,by rw [this,hz1]⟩
end
section
open Go.RowKit
attribute [local go_sem] BW.cell BW.frozen
end
end Go.Proofs.YtfknckinfcicbaaGreat
