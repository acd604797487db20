/- Parts of the proof. -/
import Derived.Test.YtfknckinfcicbaaGreatCJn19
import Derived.Test.YtfknckinfcicbaaGreatCIm4
import Derived.Test.YtfknckinfcicbaaGreatCSp2
import Derived.Test.YtfknckinfcicbaaGreatCJn9
import Derived.Test.YtfknckinfcicbaaGreatCShelf
import Derived.Test.YtfknckinfcicbaaGreatCDcv
import Derived.Test.YtfknckinfcicbaaGreatCDt
import Derived.Test.YtfknckinfcicbaaGreatCJn23
import Derived.Test.YtfknckinfcicbaaGreatCJn31
import Derived.Test.YtfknckinfcicbaaGreatCJn32
import Derived.Test.YtfknckinfcicbaaGreatCDbf
import Derived.Test.YtfknckinfcicbaaGreatCJn13
import Derived.Test.YtfknckinfcicbaaGreatCJn7
import Derived.StillTailTactics
import Derived.Lib.BitFns
import Derived.Test.YtfknckinfcicbaaGreatCJn33
import Derived.Test.YtfknckinfcicbaaGreatCJn26
set_option linter.unusedSimpArgs false
set_option linter.unusedVariables false
namespace Go.Proofs.YtfknckinfcicbaaGreat
section
open Go Go.RowKit
theorem em (f:NF) (N:Net) (hi:N.ids.length ≤ 2097152):DCalls Tryz.prog 40 [.agg (be f N)] (fun r=>r = [.c (.p (.bool (bg N)))]):=ot fun w vs h1 h2=>by
 obtain ⟨u,rfl,g1⟩:=J6 h1 h2;exact D4 u N w (Vk g1) hi
theorem n8 (f:NF) (N:Net):DCalls Tryz.prog 43 [.agg (be f N)] (fun r=>r = [.c (.p (.bool (bg N)))]):=ot fun w vs h1 h2=>by
 obtain ⟨u,rfl,g1⟩:=J6 h1 h2;exact Lg u N w (Vk g1)
end
section
open Go Go.RowKit
theorem T0 (xs:List Int) (hp:0 < xs.length) (h0:∀ x ∈ xs,0 ≤ x):Lib.maxOf xs + 1 = du xs:=by
 have key:∀ (zs:List Int) (a:Int),zs.foldl max a + 1 = zs.foldl (fun n k=>mst n (k + 1)) (a + 1):=by
  intro zs
  induction zs with
  | nil=>intro a; rfl
  | cons z zs ih =>
   intro a;simp only [List.foldl_cons];rw [ih]
   congr 1
   unfold mst;split <;> omega
 match xs,hp with
 | z :: zs,_ =>
  have hm:Lib.maxOf (z :: zs) = zs.foldl max z:=by simp [Lib.maxOf]
  rw [hm,key];unfold du;simp only [List.foldl_cons]
  congr 1
  have:=h0 z List.mem_cons_self;unfold mst;split <;> omega
theorem Z1 (xs:List Int) (hp:0 < xs.length) (m:Int) (h0:∀ x ∈ xs,0 ≤ x ∧ x < m):0 ≤ Lib.maxOf xs ∧ Lib.maxOf xs < m:=by
 have key:∀ (zs:List Int) (a:Int),(0 ≤ a ∧ a < m) → (∀ x ∈ zs,0 ≤ x ∧ x < m) → 0 ≤ zs.foldl max a ∧ zs.foldl max a < m:=by
  intro zs
  induction zs with
  | nil=>intro a h _; exact h
  | cons z zs ih =>
   intro a h h1;have:=h1 z List.mem_cons_self;exact ih _ (by omega) fun x hx=>h1 x (List.mem_cons_of_mem _ hx)
 match xs,hp with
 | z :: zs,_ =>
  have hm:Lib.maxOf (z :: zs) = zs.foldl max z:=by simp [Lib.maxOf]
  rw [hm];exact key zs z (h0 z List.mem_cons_self) fun x hx=>h0 x (List.mem_cons_of_mem _ hx)
def zBDpi1:=PLift.up (And.intro aq (And.intro bb (And.intro ch (And.intro bn (And.intro @if_pos.{1} (And.intro @netO.eq_1 (And.intro @cf (And.intro @bo @trivial))))))))
theorem jat:type_of% zBDpi1.down:=zBDpi1.down
set_option maxRecDepth 8000 in
set_option maxHeartbeats 0 in
theorem lc (o:Bool) (tt:TypeId) (xs:List Int) (hp:0 < xs.length) (h0:∀ x ∈ xs,0 ≤ x ∧ x < 1000000):DCalls Tryz.prog 107 [.c (ints o tt xs)] (fun r=>r = [.c (.p (.int .i64 (du xs)))]):=by
 have hm:=Z1 xs hp _ h0;rw [← T0 xs hp fun x hx=>(h0 x hx).1];refine aw Tryz.func107 rfl (by rw [Tryz.ntmps107]; simp) fun w0=>?_;rw [Tryz.ntmps107];have dX:=jat;simp only [bw,bf,Arg.av,ints];refine ab (dR fun K hK=>?_);(repeat refine eV ?_);refine aa (hK _ (wK [0] ?_));clear hK K;refine ab (dR fun K hK=>?_);(repeat refine eV ?_);refine cL rfl ⟨rfl,_,rfl⟩ (by omega) (by first | exact Zs) (jc4 o tt xs hp) ?_;rintro _ rfl;(repeat refine eV ?_);refine aa (hK _ (wK [2] ?_));clear hK K;exact ai (am Tryz.results107 (.one (.plain _ _ rfl)) (by decide) rfl)
end
section
open Go Go.RowKit
theorem mmF {a b:Int}:(if false = true then max a b else min a b) = min a b:=if_neg (by simp)
end
section
open Go Go.RowKit
theorem Se {N:Net} (h:Tame N) (hl:N.ends.length ≤ 30):Tame (pq N N.ends.length) :=
 ⟨by show (i8 N.ends N.ends.length 0).length ≤ 64; rw [kc]; omega,fun a=>by
  show (gl (i8 N.ends N.ends.length 0) a).length ≤ 600;have key:∀ b,(gl N.ends b).length ≤ 600:=h.deg;rw [show gl (i8 N.ends N.ends.length 0) a = (i8 N.ends N.ends.length 0).getD a [] from rfl];unfold i8;rw [List.getD_eq_getElem?_getD,List.getElem?_map]
  cases hr:(List.range (2 * N.ends.length))[a]? with
  | none=>simp
  | some b =>
   simp only [Option.map_some,Option.getD_some];split
   ·rw [List.length_map,List.length_take];have:=key b; omega
   ·rw [List.length_take]
    have:=key (b - N.ends.length); omega,by simp [pq],by show (Ha N N.ends.length).length ≤ 64; rw [C6]; omega⟩
end
end Go.Proofs.YtfknckinfcicbaaGreat
