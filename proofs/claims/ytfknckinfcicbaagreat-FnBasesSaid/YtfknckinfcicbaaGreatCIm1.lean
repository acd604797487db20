/- The program's small tests on numbers and lists; the library's ContainsFunc at slices of int, for every predicate. -/
import Derived.Test.YtfknckinfcicbaaGreatChecked
import Derived.Test.YtfknckinfcicbaaGreatCJn7
import Derived.Test.YtfknckinfcicbaaGreatCShelf
import Derived.Test.YtfknckinfcicbaaGreatCJn9
set_option linter.unusedSimpArgs false
set_option linter.unusedVariables false
namespace Go.Proofs.YtfknckinfcicbaaGreat
open Go.RowKit
def Enters (g:FuncId):Prop:=∀ (args:Array Value) (w:World),(callFunc g args).run Tryz.prog w = .ok (.enter g args) w
theorem Enters.of {g : FuncId} {fn : Func} {c : Code} (hf : Tryz.prog.funcs[g]? = some fn) (hname : (fn.name == "runtime.NumGoroutine") = false) (hb : fn.body = some c) : Enters g := by
 intro args w;have h1 : fn.name ≠ "runtime.NumGoroutine" := by simpa using hname
 simp [callFunc,hf,h1,hb]
def Yw (w:World) (g:FuncId) (caps:Array Value) (p:Int → Bool):Prop :=
 Enters g ∧ ∀ (x:Int) (W:World),Below w.heap.size w W → Calls Tryz.prog g (#[.int .i64 x] ++ caps) W (tg W (.bool (p x)))
def rr (p:Int → Bool) (xs:List Int):Int:=if xs.any p then (xs.findIdx p:Int) else -1
theorem Qv {p:Int → Bool} {xs:List Int} {k:Nat} (hk:k < xs.length) (h:∀ j,j < k → p (gi xs j) = false) (he:p (gi xs k) = true):rr p xs = k:=by
 have h1:xs.any p = true:=by
  rw [List.any_eq_true]; exact ⟨xs[k],List.getElem_mem hk,by rwa [← bt hk]⟩
 have h2:xs.findIdx p = k:=by
  rw [List.findIdx_eq hk];refine ⟨by rwa [← bt hk],fun j hj=>?_⟩;have:=h j hj;rwa [bt (by omega)] at this
 simp [rr,h1,h2]
theorem Jo {p:Int → Bool} {xs:List Int} (h:∀ j,j < xs.length → p (gi xs j) = false):rr p xs = -1 ∧ xs.any p = false:=by
 have h1:xs.any p = false:=by
  rw [← Bool.not_eq_true,List.any_eq_true];rintro ⟨x,hx,hp⟩;obtain ⟨k,hk,rfl⟩:=List.getElem_of_mem hx;have:=h k hk;rw [bt hk,hp] at this;cases this
 exact ⟨by simp [rr,h1],h1⟩
theorem Qw {p:Int → Bool} {xs:List Int}:decide (0 ≤ rr p xs) = xs.any p:=by
 unfold rr; split <;> simp_all
set_option maxRecDepth 100000 in
set_option maxHeartbeats 800000 in
theorem D6 {S:Nat → Prop} (v:Value) (xs:List Int) (g:FuncId) (caps:Array Value) (p:Int → Bool) (w:World) (h:IntsR w S v xs) (hp:Yw w g caps p) :
 Calls Tryz.prog 141 #[v,.func (.func g) #[] caps] w (tg w (.int .i64 (rr p xs))):=by
 have hb:=h.bound;obtain ⟨A,c,rfl,hnc,hm,hx⟩:=h;have HX:=Lib.hid hx;have HP:=Lib.hid hp;clear hx hp
 go_enter Tryz.func141,Tryz.ntmps141
 go_wp2
 go_loopw [8] (fun i wr=>∃ k:Nat,k ≤ xs.length ∧ i = .int .i64 k ∧ (∀ j,j < k → p (gi xs j) = false) ∧ Below w.heap.size w wr) (fun i _=>xs.length - (intOf i).toNat)
 case atStart=>exact ⟨0,Nat.zero_le _,rfl,fun j hj=>absurd hj (Nat.not_lt_zero _),Below.refl _ _⟩
 case round =>
  obtain ⟨k,hk,rfl,hs,hbel⟩:=hrel;have HS:=Lib.hid hs;clear hs
  by_cases hlt:k < xs.length
  ·obtain ⟨b,off,rfl,-,hc⟩:=HX.out (by omega);have h1:wr.cell? ⟨b,off + k,none⟩ = some (.int .i64 (gi xs k)):=by rw [hbel.cell (by exact a8 (hc k hlt))]; exact hc k hlt
   clear hc;have HB:=Lib.hid hbel;clear hbel;have hen:∀ (args:Array Value) (w:World),(callFunc g args).run Tryz.prog w = .ok (.enter g args) w:=HP.out.1;cases he:p (gi xs k)
   ·have HE:=Lib.hid he;clear he
    go_wp2_with fail
    refine (HP.out.2 _ _ HB.out).mono ?_;rintro e w1 ⟨rfl,hb1⟩;rw [HE.out];have HB1:=Lib.hid (Below.thenB HB.out hb1 HB.out.size);clear hb1
    go_wp2_with fail
    go_roundw
    case rel =>
     refine ⟨k + 1,by omega,by go_num,fun j hj=>?_,HB1.out⟩
     by_cases h1:j = k
     ·subst h1; exact HE.out
     ·exact HS.out j (by omega)
    case measure=>simp [intOf]; omega
   ·have HE:=Lib.hid he;have HF:=Lib.hid (Qv hlt HS.out he);clear he
    go_wp2_with fail
    refine (HP.out.2 _ _ HB.out).mono ?_;rintro e w1 ⟨rfl,hb1⟩;rw [HE.out];have HB1:=Lib.hid (Below.thenB HB.out hb1 HB.out.size);clear hb1
    go_wp2_with fail
    go_ret
    exact ⟨by rw [HF.out]; rfl,HB1.out⟩
  ·have HF:=Lib.hid (Jo (p:=p) (xs:=xs) fun j hj=>HS.out j (by omega))
   go_wp2
   go_ret
   exact ⟨by rw [HF.out.1]; rfl,hbel⟩
set_option maxHeartbeats 800000 in
theorem zf {S:Nat → Prop} (v:Value) (xs:List Int) (g:FuncId) (caps:Array Value) (p:Int → Bool) (w:World) (h:IntsR w S v xs) (hp:Yw w g caps p) :
 Calls Tryz.prog 108 #[v,.func (.func g) #[] caps] w (tg w (.bool (xs.any p))):=by
 have C:=Lib.hid (D6 v xs g caps p w h hp);have HG:=Lib.hid (Qw (p:=p) (xs:=xs));clear h hp
 go_enter Tryz.func108,Tryz.ntmps108
 go_wp2_with fail
 refine C.out.mono ?_;rintro e w1 ⟨rfl,hb1⟩;have HB1:=Lib.hid hb1;clear hb1
 generalize rr p xs = r at HG ⊢
 by_cases hr:0 ≤ r
 ·have e1:decide (0 ≤ r) = true:=by simp [hr]
  rw [e1] at HG
  go_wp2_with fail
  go_ret
  exact ⟨by rw [← HG.out]; rfl,HB1.out⟩
 ·have e1:decide (0 ≤ r) = false:=by simp [hr]
  rw [e1] at HG
  go_wp2_with fail
  go_ret
  exact ⟨by rw [← HG.out]; rfl,HB1.out⟩
set_option maxHeartbeats 800000 in
theorem Dy (x lo hi:Int) (a b:Nat) (w:World) (ha:w.cell? ⟨a,0,none⟩ = some (.int .i64 lo)) (hb:w.cell? ⟨b,0,none⟩ = some (.int .i64 hi)) :
 Calls Tryz.prog 112 #[.int .i64 x,.pointer (some ⟨a,0,none⟩),.pointer (some ⟨b,0,none⟩)] w (RetD w (.bool (!inB x lo hi))):=by
 go_enter Tryz.func112,Tryz.ntmps112
 go_wp2_with (go_at_call 47; refine (d8 _ _ _ _).mono ?_; rintro e w1 ⟨rfl,rfl⟩)
 go_ret
 exact ⟨rfl,0,rfl⟩
theorem Ka (xs:List Int) (lo hi:Int):(!xs.any fun x=>!inB x lo hi) = qq xs lo hi:=by
 simp only [qq]
 induction xs with
 | nil=>rfl
 | cons x xs ih=>simp only [List.any_cons,List.all_cons,Bool.not_or,Bool.not_not,ih]
set_option maxHeartbeats 800000 in
theorem Dz {S:Nat → Prop} (v:Value) (xs:List Int) (lo hi:Int) (w:World) (h:IntsR w S v xs) :
 Calls Tryz.prog 69 #[v,.int .i64 lo,.int .i64 hi] w (tg w (.bool (qq xs lo hi))):=by
 have hb0:∀ o1 o2,Below w.heap.size w ((w.alloc o1).alloc o2):=fun o1 o2=>((Below.refl _ _).alloc (Nat.le_refl _) _).alloc (by simp) _;have HB0:=Lib.hid hb0;have HR:=Lib.hid h;clear h hb0
 go_enter Tryz.func69,Tryz.ntmps69
 go_wp2_with fail
 refine (zf _ _ _ _ (fun x=>!inB x lo hi) _ (HR.out.below (HB0.out _ _)) ⟨Enters.of Tryz.func112 (by kernel_rfl) rfl,fun x W hW=>?_⟩).mono ?_
 ·obtain ⟨k1,k2⟩:=jdp hW;exact (Dy x lo hi _ _ W (by rw [k1]; rfl) (by rw [k2]; rfl)).mono fun _ _ h=>h.v
 rintro e w1 ⟨rfl,hb1⟩;have HB1:=Lib.hid (Below.then_ (HB0.out _ _) hb1);clear hb1
 go_wp2_with fail
 go_ret
 exact ⟨by rw [← Ka]; rfl,HB1.out⟩
end Go.Proofs.YtfknckinfcicbaaGreat
