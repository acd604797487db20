/- Parts of the proof. -/
import Derived.Test.YtfknckinfcicbaaGreatCJn35
import Derived.Test.YtfknckinfcicbaaGreatCDcv
import Derived.Test.YtfknckinfcicbaaGreatCJn21
import Derived.Test.YtfknckinfcicbaaGreatCDix
import Derived.Test.YtfknckinfcicbaaGreatCJn13
import Derived.Test.YtfknckinfcicbaaGreatCJn32
import Derived.Test.YtfknckinfcicbaaGreatCJn31
import Derived.Test.YtfknckinfcicbaaGreatCJn23
import Derived.Test.YtfknckinfcicbaaGreatCJn7
import Derived.Test.YtfknckinfcicbaaGreatCIm1
import Derived.Test.YtfknckinfcicbaaGreatCJn9
import Derived.Test.YtfknckinfcicbaaGreatCJn26
import Derived.Test.YtfknckinfcicbaaGreatCIm4
import Derived.Test.YtfknckinfcicbaaGreatCMk
set_option linter.unusedSimpArgs false
set_option linter.unusedVariables false
namespace Go.Proofs.YtfknckinfcicbaaGreat
section
open Go Go.RowKit
def zBDwx1:=PLift.up (And.intro aq (And.intro bb (And.intro ch (And.intro bn (And.intro b7 (And.intro @if_pos.{1} (And.intro @cf (And.intro cd (And.intro @cx (And.intro @cw (And.intro @bo (And.intro @a7 (And.intro @ba @trivial)))))))))))))
theorem jak:type_of% zBDwx1.down:=zBDwx1.down
set_option maxRecDepth 8000 in
set_option maxHeartbeats 0 in
theorem D5 (f:NF) (N:Net) (hg:bg N = true) {a:Nat} (ha:a < N.ends.length):DCalls Tryz.prog 35 [.agg (be f N)] (fun r=>r = [.c (.p (.bool (qh N a))),.c (.p (.bool true))]):=by
 have hids:N.ids.length ≤ 2097152:=by have:=Jf hg; omega
 refine aw Tryz.func35 rfl (by rw [Tryz.ntmps35]; simp) fun w0=>?_;rw [Tryz.ntmps35];have dX:=jak;simp only [bw,bf,Arg.av,be,b9,ints,ends];refine ab (dR fun K hK=>?_);(repeat refine eV ?_);refine aa (hK _ (wK [1] ?_));clear hK K;refine ab ?_;refine ab (dR fun K hK=>?_);(repeat refine eV ?_);refine cL rfl ⟨rfl,_,rfl⟩ (by omega) (by first | exact n9) (em ⟨false,f.t1,f.o2,f.t2,false,f.t3,false,f.t4⟩ N hids) ?_;rintro _ rfl;(repeat refine eV ?_);have dK:=@hg;refine aa (hK _ (au [1,6] ?_));clear hK K;refine dI ?_ ?_<;>intro hb
 ·cases hb
 ·refine af ?_;show DW _ _ _ _ _;refine ab (dR fun K hK=>?_);(repeat refine eV ?_);refine cL rfl ⟨rfl,_,rfl⟩ (by omega) (by first | exact Ny) (tu ⟨false,f.t1,f.o2,f.t2,false,f.t3,false,f.t4⟩ N hg ha) ?_;rintro _ rfl;(repeat refine eV ?_);refine aa (hK _ (wK [2,3] ?_));clear hK K;exact ai (am Tryz.results35 (.two (.plain _ _ rfl) (.plain _ _ rfl)) (by decide) rfl)
end
section
open Go Go.RowKit
theorem ep {N:Net} (hg:bg N = true):Sym N.ends ∧ (1 ≤ N.ends.length ∧ N.ends.length ≤ 40) ∧ N.ids.length ≤ 2097152 ∧ ∀ a,(gl N.ends a).length ≤ 1000:=by
 have hn:=jf hg;refine ⟨(jv hg).sym,hn,by have:=Jf hg; omega,fun a=>?_⟩
 rcases Nat.lt_or_ge a N.ends.length with h | h
 ·have:=Jg hg h; omega
 ·have:gl N.ends a = []:=by unfold gl; rw [List.getD_eq_getElem?_getD,List.getElem?_eq_none h]; rfl
  rw [this]; simp
end
section
open Go Go.RowKit
def qC (e:Int × Int × Int × Int):List C:=[.p (.int .i64 e.1),.p (.int .i64 e.2.1),.p (.int .i64 e.2.2.1),.p (.int .i64 e.2.2.2)]
def gq (L:List (Int × Int × Int × Int)) (k:Nat):Int × Int × Int × Int:=L.getD k (0,0,0,0)
theorem Ct {L:List (Int × Int × Int × Int)} {k:Nat} (h:k < L.length):gq L k = L[k]:=by simp [gq,h]
theorem jdu {L:List (Int × Int × Int × Int)} {k:Nat} (h:k < L.length):(L.map qC).getD k [] = [.p (.int .i64 (gq L k).1),.p (.int .i64 (gq L k).2.1),.p (.int .i64 (gq L k).2.2.1),.p (.int .i64 (gq L k).2.2.2)]:=by
 rw [List.getD_eq_getElem?_getD,List.getElem?_map,List.getElem?_eq_getElem h,Ct h]; rfl
def edP (N:Net) (k i:Nat):Bool:=decide ((k:Int) < (gp (gl N.ends k) i).1) || (((k:Int) == (gp (gl N.ends k) i).1) && decide ((i:Int) ≤ (gp (gl N.ends k) i).2))
def edN (N:Net) (k:Nat):Nat → List (Int × Int × Int × Int)
 | 0=>[]
 | i + 1=>if edP N k i = true then edN N k i ++ [((k:Int),(i:Int),(gp (gl N.ends k) i).1,(gp (gl N.ends k) i).2)] else edN N k i
def edL (N:Net):Nat → List (Int × Int × Int × Int)
 | 0=>[]
 | k + 1=>edL N k ++ edN N k (gl N.ends k).length
theorem Ou (N:Net) (k:Nat):∀ i,(edN N k i).length ≤ i
 | 0=>Nat.le_refl _
 | i + 1=>by
  have:=Ou N k i;rw [edN];split
  ·simp; omega
  ·omega
theorem xf {N:Net} {k:Nat}:∀ {i:Nat} {e:Int × Int × Int × Int},e ∈ edN N k i → ∃ j,j < i ∧ edP N k j = true ∧ e = ((k:Int),(j:Int),(gp (gl N.ends k) j).1,(gp (gl N.ends k) j).2)
 | 0,e,h=>by cases h
 | i + 1,e,h=>by
  rw [edN] at h;split at h
  ·rename_i hp
   rcases List.mem_append.1 h with h | h
   ·obtain ⟨j,h1,h2⟩:=xf h; exact ⟨j,by omega,h2⟩
   ·exact ⟨i,by omega,hp,by simpa using h⟩
  ·obtain ⟨j,h1,h2⟩:=xf h; exact ⟨j,by omega,h2⟩
theorem G3 {N:Net}:∀ {n:Nat} {e:Int × Int × Int × Int},e ∈ edL N n → ∃ k j,k < n ∧ j < (gl N.ends k).length ∧ edP N k j = true ∧ e = ((k:Int),(j:Int),(gp (gl N.ends k) j).1,(gp (gl N.ends k) j).2)
 | 0,e,h=>by cases h
 | n + 1,e,h=>by
  rw [edL] at h
  rcases List.mem_append.1 h with h | h
  ·obtain ⟨k,j,h1,h2⟩:=G3 h; exact ⟨k,j,by omega,h2⟩
  ·obtain ⟨j,h1,h2⟩:=xf h; exact ⟨n,j,by omega,h1,h2⟩
end
section
open Go Go.RowKit
theorem Of (o:Bool) (t:TypeId) (xs:List Int) (lo hi:Int):DCalls Tryz.prog 80 [.c (.sl o t 1 (xs.map iC)),.c (.p (.int .i64 lo)),.c (.p (.int .i64 hi))] (fun r=>r = [.c (.p (.bool (qq xs lo hi)))]):=ot fun w vs h1 h2=>by
 obtain ⟨u,v,t2,rfl,g1,g2,g3⟩:=Yt h1 h2;rw [J9 g2,J9 g3];exact (E4 u xs lo hi w (qd g1)).mono fun _ _ h=>RetQ.v h
end
section
open Go Go.RowKit
def ku:Net:=⟨[],[],[]⟩
end
end Go.Proofs.YtfknckinfcicbaaGreat
