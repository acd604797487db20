/- Parts of the proof. -/
import Derived.WalkKit
import Derived.WalkSpells
import Derived.WalkLawsBesides
import Derived.Outline
import Derived.Lib.Hide
import Derived.Deep.OwnRows
import Derived.OwnWalk
import Derived.Maps.AppendAt
import Derived.Deep.AppendLies
import Derived.Deep.QuietTactic
import Derived.BigQuiet
import Derived.Deep.LoopGhost
set_option linter.unusedSimpArgs false
set_option linter.unusedVariables false
namespace Go.Proofs.YtfknckinfcicbaaGreat
section
open Go.RowKit
def gi (xs:List Int) (j:Nat):Int:=xs.getD j 0
def gp (es:List (Int × Int)) (j:Nat):Int × Int:=es.getD j (0,0)
def gl (ess:List (List (Int × Int))) (j:Nat):List (Int × Int):=ess.getD j []
theorem bt {xs:List Int} {j:Nat} (h:j < xs.length):gi xs j = xs[j]:=by simp [gi,h]
theorem gb {xs:List (Int × Int)} {j:Nat} (h:j < xs.length):gp xs j = xs[j]:=by simp [gp,h]
theorem jg {xs:List (List (Int × Int))} {j:Nat} (h:j < xs.length):gl xs j = xs[j]:=by simp [gl,h]
theorem a8 {w:World} {b o:Nat} {v:Value} (h:w.cell? ⟨b,o,none⟩ = some v):b < w.heap.size:=World.block_lt_of_cell? w _ h
def IntsR (w:World) (S:Nat → Prop) (v:Value) (xs:List Int):Prop :=
 ∃ A c,v = .slice A xs.length c ∧ xs.length ≤ c ∧ c ≤ maxLen ∧
  (0 < xs.length → ∃ b off,A = some ⟨b,off,none⟩ ∧ S b ∧ ∀ j,j < xs.length → w.cell? ⟨b,off + j,none⟩ = some (.int .i64 (gi xs j)))
def EndsR (w:World) (S:Nat → Prop) (v:Value) (es:List (Int × Int)):Prop :=
 ∃ A c,v = .slice A es.length c ∧ es.length ≤ c ∧ c ≤ maxLen ∧
  (0 < es.length → ∃ b off,A = some ⟨b,off,none⟩ ∧ S b ∧ ∀ j,j < es.length →
    w.cell? ⟨b,off + j * 2,none⟩ = some (.int .i64 (gp es j).1) ∧ w.cell? ⟨b,off + j * 2 + 1,none⟩ = some (.int .i64 (gp es j).2))
def EndSSR (w:World) (S:Nat → Prop) (v:Value) (ess:List (List (Int × Int))):Prop :=
 ∃ A c,v = .slice A ess.length c ∧ ess.length ≤ c ∧ c ≤ maxLen ∧
  (0 < ess.length → ∃ b off,A = some ⟨b,off,none⟩ ∧ S b ∧ ∀ j,j < ess.length →
    ∃ u,w.cell? ⟨b,off + j,none⟩ = some u ∧ EndsR w S u (gl ess j))
structure Net where
 ends:List (List (Int × Int))
 ids:List Int
 inputs:List Int
def NetR (w:World) (S:Nat → Prop) (v:Value) (N:Net):Prop :=
 ∃ ve vi vn,v = .agg #[ve,vi,vn] ∧ EndSSR w S ve N.ends ∧ IntsR w S vi N.ids ∧ IntsR w S vn N.inputs
section
variable {w w':World} {S S':Nat → Prop} {v:Value}
theorem IntsR.keep {xs} (h:IntsR w S v xs) (hS:∀ b,S b → S' b) (hk:∀ b,S b → b < w.heap.size → w'.heap[b]? = w.heap[b]?):IntsR w' S' v xs:=by
 obtain ⟨A,c,hv,h1,h2,h3⟩:=h;refine ⟨A,c,hv,h1,h2,fun hn=>?_⟩;obtain ⟨b,off,hA,hb,hc⟩:=h3 hn;exact ⟨b,off,hA,hS b hb,fun j hj=>(World.cell?_of_block (hk b hb (a8 (hc 0 hn)))).trans (hc j hj)⟩
theorem EndsR.keep {xs} (h:EndsR w S v xs) (hS:∀ b,S b → S' b) (hk:∀ b,S b → b < w.heap.size → w'.heap[b]? = w.heap[b]?):EndsR w' S' v xs:=by
 obtain ⟨A,c,hv,h1,h2,h3⟩:=h;refine ⟨A,c,hv,h1,h2,fun hn=>?_⟩;obtain ⟨b,off,hA,hb,hc⟩:=h3 hn;exact ⟨b,off,hA,hS b hb,fun j hj=>⟨(World.cell?_of_block (hk b hb (a8 (hc 0 hn).1))).trans (hc j hj).1,(World.cell?_of_block (hk b hb (a8 (hc 0 hn).1))).trans (hc j hj).2⟩⟩
theorem EndSSR.keep {xs} (h:EndSSR w S v xs) (hS:∀ b,S b → S' b) (hk:∀ b,S b → b < w.heap.size → w'.heap[b]? = w.heap[b]?):EndSSR w' S' v xs:=by
 obtain ⟨A,c,hv,h1,h2,h3⟩:=h;refine ⟨A,c,hv,h1,h2,fun hn=>?_⟩;obtain ⟨b,off,hA,hb,hc⟩:=h3 hn;refine ⟨b,off,hA,hS b hb,fun j hj=>?_⟩;obtain ⟨u,hu,hr⟩:=hc j hj;exact ⟨u,(World.cell?_of_block (hk b hb (a8 hu))).trans hu,hr.keep hS hk⟩
theorem NetR.keep {N} (h:NetR w S v N) (hS:∀ b,S b → S' b) (hk:∀ b,S b → b < w.heap.size → w'.heap[b]? = w.heap[b]?):NetR w' S' v N:=by
 obtain ⟨ve,vi,vn,hv,h1,h2,h3⟩:=h;exact ⟨ve,vi,vn,hv,h1.keep hS hk,h2.keep hS hk,h3.keep hS hk⟩
theorem IntsR.below {xs} (h:IntsR w S v xs) (hb:Below w.heap.size w w'):IntsR w' S v xs:=h.keep (fun _ h=>h) fun b _ hl=>hb.block b hl
theorem EndsR.below {xs} (h:EndsR w S v xs) (hb:Below w.heap.size w w'):EndsR w' S v xs:=h.keep (fun _ h=>h) fun b _ hl=>hb.block b hl
theorem NetR.below {N} (h:NetR w S v N) (hb:Below w.heap.size w w'):NetR w' S v N:=h.keep (fun _ h=>h) fun b _ hl=>hb.block b hl
theorem IntsR.bound {xs} (h:IntsR w S v xs):xs.length ≤ 9223372036854775807:=by
 obtain ⟨A,c,hv,h1,h2,h3⟩:=h;unfold maxLen at h2; omega
end
theorem Below.then_ {w w1 w2:World} (h:Below w.heap.size w w1) (k:Below w1.heap.size w1 w2):Below w.heap.size w w2:=h.trans (k.mono h.size)
theorem Below.thenB {B:Nat} {w w1 w2:World} (h:Below B w w1) (k:Below w1.heap.size w1 w2) (hB:B ≤ w1.heap.size):Below B w w2:=h.trans (k.mono hB)
theorem i7 {B:Nat} {a w:World} (h:Below B a w) (n:Nat):Below B a (w.drewN n):=⟨h.os,h.tape,h.output,h.size,h.block⟩
theorem jbd {w w':World} {cs:Array Value} {t:TypeId} (hb:Below (w.alloc (.cells cs t)).heap.size (w.alloc (.cells cs t)) w') :
 ∀ i,w'.cell? ⟨w.heap.size,i,none⟩ = cs[i]?:=fun i=>by
 rw [hb.cell (by simp)];exact cell_of_row _ _ _ cs t (0,0) (heap_alloc_new w _)
theorem jdp {w w':World} {cs ds:Array Value} {t t':TypeId} (hb:Below ((w.alloc (.cells cs t)).alloc (.cells ds t')).heap.size ((w.alloc (.cells cs t)).alloc (.cells ds t')) w') :
 (∀ i,w'.cell? ⟨w.heap.size,i,none⟩ = cs[i]?) ∧ (∀ i,w'.cell? ⟨w.heap.size + 1,i,none⟩ = ds[i]?):=by
 constructor
 ·intro i;rw [hb.cell (by simp; omega)];exact cell_of_row _ _ _ cs t (0,0) ((Below.heap_alloc _ _ _ (by simp)).trans (heap_alloc_new w _))
 ·intro i;rw [hb.cell (by simp)];have:=heap_alloc_new (w.alloc (.cells cs t)) (.cells ds t');simp only [World.size_alloc] at this;exact cell_of_row _ _ _ ds t' (0,0) this
def Blk (w:World) (g:Nat) (t:TypeId) (cs:Array Value):Prop:=w.heap[g]? = some (.cells cs t (0,0))
section
variable {w w':World} {g:Nat} {t:TypeId} {cs:Array Value}
theorem Blk.lt (h:Blk w g t cs):g < w.heap.size:=by
 rcases Nat.lt_or_ge g w.heap.size with hlt | hge
 ·exact hlt
 ·unfold Blk at h; rw [Array.getElem?_eq_none hge] at h; cases h
theorem Blk.cell (h:Blk w g t cs):∀ i,w.cell? ⟨g,i,none⟩ = cs[i]?:=fun i=>cell_of_row w g i cs t (0,0) h
theorem Blk.free (h:Blk w g t cs):∀ i,w.frozen? ⟨g,i,none⟩ = false:=fun i=>by
 unfold Blk at h;simp [World.frozen?,h]
theorem Blk.new (w:World) (t:TypeId) (cs:Array Value):Blk (w.alloc (.cells cs t)) w.heap.size t cs:=heap_alloc_new w _
theorem Blk.alloc (h:Blk w g t cs) (o:Obj):Blk (w.alloc o) g t cs:=(Below.heap_alloc w o g h.lt).trans h
theorem Blk.put (h:Blk w g t cs) (i:Nat) (u:Value):Blk (w.setCell ⟨g,i,none⟩ u) g t (cs.setIfInBounds i u):=by
 unfold Blk at h ⊢;simp [World.setCell,Array.getElem?_modify,h]
theorem Blk.far (h:Blk w g t cs) {p:Addr} (hp:g ≠ p.block) (u:Value):Blk (w.setCell p u) g t cs:=(Below.heap_setCell w p u g hp).trans h
theorem Blk.below (h:Blk w g t cs) (hb:Below w.heap.size w w'):Blk w' g t cs:=(hb.block g h.lt).trans h
end
def ic (xs:List Int):List Value:=xs.map (Value.int .i64)
theorem yw {xs:List Int} {j:Nat} (h:j < xs.length):(ic xs)[j]? = some (.int .i64 (gi xs j)):=by simp [ic,gi,h]
def OwnI (w:World) (B:Nat) (v:Value) (xs:List Int):Prop:=w.ownsRow B 3 1 v xs.length (ic xs)
theorem OwnI.ints {w:World} {B:Nat} {v:Value} {xs:List Int} (h:OwnI w B v xs):IntsR w (fun b=>B ≤ b) v xs:=by
 obtain ⟨h1,h2⟩:=h
 rcases h2 with ⟨rfl,hn⟩ | ⟨g,cap,cur,rfl,hB,hg,hnc,hm,hs,ht⟩
 ·exact ⟨none,0,by rw [hn],by omega,by simp [maxLen],fun h=>absurd h (by omega)⟩
 ·refine ⟨_,cap,rfl,hnc,hm,fun hn=>⟨g,0,rfl,hB,fun j hj=>?_⟩⟩;rw [Nat.zero_add,cell_of_row w g j cur _ (0,0) hg];have:=yw hj;rw [← ht,List.getElem?_take] at this;split at this
  ·simpa using this
  ·cases this
theorem OwnI.shape {w:World} {B:Nat} {v:Value} {xs:List Int} (h:OwnI w B v xs):∃ A c,v = .slice A xs.length c:=by
 rcases h.2 with ⟨rfl,hn⟩ | ⟨g,cap,cur,rfl,_⟩
 ·exact ⟨none,0,by rw [hn]⟩
 ·exact ⟨_,_,rfl⟩
theorem OwnI.below {w w':World} {B:Nat} {v:Value} {xs:List Int} (h:OwnI w B v xs) (hb:Below w.heap.size w w'):OwnI w' B v xs:=by
 obtain ⟨h1,h2⟩:=h;refine ⟨h1,?_⟩
 rcases h2 with h2 | ⟨g,cap,cur,hv,hB,hg,h⟩
 ·exact .inl h2
 ·exact .inr ⟨g,cap,cur,hv,hB,(hb.block g (Array.getElem?_eq_some_iff.1 hg).1).trans hg,h⟩
theorem OwnI.keepB {w w':World} {B:Nat} {v:Value} {xs:List Int} (h:OwnI w B v xs) (hk:∀ b,B ≤ b → b < w.heap.size → w'.heap[b]? = w.heap[b]?):OwnI w' B v xs:=by
 obtain ⟨h1,h2⟩:=h;refine ⟨h1,?_⟩
 rcases h2 with h2 | ⟨g,cap,cur,hv,hB,hg,h⟩
 ·exact .inl h2
 ·exact .inr ⟨g,cap,cur,hv,hB,(hk g hB (Array.getElem?_eq_some_iff.1 hg).1).trans hg,h⟩
theorem OwnI.mono {w:World} {B B':Nat} {v:Value} {xs:List Int} (h:OwnI w B v xs) (hB:B' ≤ B):OwnI w B' v xs:=by
 obtain ⟨h1,h2⟩:=h;refine ⟨h1,?_⟩
 rcases h2 with h2 | ⟨g,cap,cur,hv,hb,h⟩
 ·exact .inl h2
 ·exact .inr ⟨g,cap,cur,hv,by omega,h⟩
theorem OwnI.of_rowIs {w:World} {B g n:Nat} {xs:List Int} (h:w.rowIs g 3 n (fun i=>.int .i64 (gi xs i))) (hl:xs.length = n) (hB:B ≤ g) (hm:n ≤ maxLen):OwnI w B (.slice (some ⟨g,0,none⟩) n n) xs:=by
 obtain ⟨c,hc,hs,hf⟩:=h;subst hl;refine ⟨by simp [ic],.inr ⟨g,xs.length,c,rfl,hB,hc,Nat.le_refl _,hm,by omega,?_⟩⟩;apply List.ext_getElem?;intro i
 by_cases hi:i < xs.length
 ·rw [List.getElem?_take_of_lt (by omega),yw hi];simpa using hf i hi
 ·rw [List.getElem?_eq_none (by simp; omega),List.getElem?_eq_none (by simp [ic]; omega)]
def Vs (w:World) (xs:List Int) (e:Ending) (w':World):Prop:=∃ v,e = .returned v ∧ OwnI w' w.heap.size v xs ∧ Below w.heap.size w w'
def tg (w:World) (v:Value) (e:Ending) (w':World):Prop:=e = .returned v ∧ Below w.heap.size w w'
def RetD (w:World) (v:Value) (e:Ending) (w':World):Prop:=e = .returned v ∧ ∃ n,w' = w.drewN n
theorem RetD.v {w w':World} {v:Value} {e:Ending} (h:RetD w v e w'):tg w v e w':=by
 obtain ⟨h1,n,rfl⟩:=h;exact ⟨h1,i7 (Below.refl _ _) n⟩
def RetQ (w:World) (v:Value) (e:Ending) (w':World):Prop:=e = .returned v ∧ w = w'
theorem Bx {P:Program} {f:FuncId} {args:Array Value} {w:World} {n:Nat} {v:Value} (h:Calls P f args (w.drewN n) (RetQ (w.drewN n) v)) :
 Calls P f args (w.drewN n) fun e w''=>e = .returned v ∧ ∃ m,w'' = w.drewN m:=h.mono fun _ _ ⟨he,hm⟩=>⟨he,n,hm.symm⟩
structure BW (w:World) where
 wd:World
 h:Below w.heap.size w wd
instance BW.some {w:World}:Nonempty (BW w):=⟨⟨w,Below.refl _ _⟩⟩
theorem BW.cell {w:World} (x:BW w) (b o:Nat) (h:b < w.heap.size):x.wd.cell? ⟨b,o,none⟩ = w.cell? ⟨b,o,none⟩:=x.h.cell (p:=⟨b,o,none⟩) h
theorem BW.frozen {w:World} (x:BW w) (b o:Nat) (h:b < w.heap.size):x.wd.frozen? ⟨b,o,none⟩ = w.frozen? ⟨b,o,none⟩:=x.h.frozen (p:=⟨b,o,none⟩) h
theorem ik {P:Program} {id:Nat} {Q:Exit → Act → World → Prop} {a:Act} {w:World} {l:List Oper} (hm:P.follows .mixedOrders = true) (hB:Region.lexB .any l.toArray = true)
 (h:wpQuiet P l.toArray (fun w'=>∃ x:BW w,w' = x.wd) (fun a'=>∀ w',(∃ x:BW w,w' = x.wd) → Q .normal a' w') l a):(Code.region id l.toArray true).wp P Q a w :=
 wp_region_quiet (C:=fun w'=>∃ x:BW w,w' = x.wd) hm hB ⟨⟨_,(Below.refl _ w).drew⟩,rfl⟩ (by simpa using h)
theorem F9 {P:Program} {f:FuncId} {args:Array Value} {w:World} {x:BW w} {v:Value} (h:Calls P f args x.wd (tg x.wd v)) :
 Calls P f args x.wd fun e w''=>e = .returned v ∧ ∃ y:BW w,w'' = y.wd:=h.mono fun _ w'' ⟨he,hb⟩=>⟨he,⟨w'',Below.then_ x.h hb⟩,rfl⟩
theorem RetQ.v {w w':World} {v:Value} {e:Ending} (h:RetQ w v e w'):tg w v e w':=by
 obtain ⟨h1,rfl⟩:=h;exact ⟨h1,Below.refl _ _⟩
end
section
open Go.RowKit
def Ke (w:World) (cv:Value) (L:Nat):Prop :=
 ∃ A c,cv = .slice A L c ∧ L ≤ 9223372036854775807 ∧ (L ≤ c ∧ c ≤ maxLen) ∧ (0 < L → ∃ b off,A = some ⟨b,off,none⟩ ∧ ∀ j,j < L → ∃ z:Int,0 ≤ z ∧ z ≤ 255 ∧ w.cell? ⟨b,off + j,none⟩ = some (.int .u8 z))
end
section
theorem lj {xs ys:List Int} (hl:xs.length = ys.length) (h:∀ j,j < xs.length → gi xs j = gi ys j):xs = ys:=by
 apply List.ext_getElem hl;intro i h1 h2;have:=h i h1;rwa [bt h1,bt h2] at this
def inB (n lo hi:Int):Bool:=decide (lo ≤ n) && decide (n ≤ hi)
theorem db {n lo hi:Int}:inB n lo hi = true ↔ lo ≤ n ∧ n ≤ hi:=by simp [inB]
def nk (xs:List Int) (n:Int):Bool:=xs.contains n
def qq (xs:List Int) (lo hi:Int):Bool:=xs.all fun n=>inB n lo hi
theorem gn {xs:List Int} {n:Int}:nk xs n = true ↔ n ∈ xs:=by simp [nk]
theorem Cq {xs:List Int} {n:Int} {k:Nat} (h:k < xs.length) (e:gi xs k = n):nk xs n = true:=by
 rw [gn,← e,bt h]; exact List.getElem_mem h
theorem Cr {xs:List Int} {n:Int}:nk xs n = false ↔ ∀ k,k < xs.length → gi xs k ≠ n:=by
 rw [← Bool.not_eq_true,gn];constructor
 ·intro h k hk e; exact h (by rw [← e,bt hk]; exact List.getElem_mem hk)
 ·intro h hm;obtain ⟨k,hk,e⟩:=List.getElem_of_mem hm;exact h k hk (by rw [bt hk,e])
theorem r8 {xs:List Int} {lo hi:Int}:qq xs lo hi = true ↔ ∀ k,k < xs.length → inB (gi xs k) lo hi = true:=by
 simp only [qq,List.all_eq_true];constructor
 ·intro h k hk; rw [bt hk]; exact h _ (List.getElem_mem hk)
 ·intro h x hx;obtain ⟨k,hk,rfl⟩:=List.getElem_of_mem hx;have:=h k hk; rwa [bt hk] at this
def Xe (xs:List Int) (k:Nat):Prop:=∀ i,i < k → inB (gi xs i) 1 999999 = true ∧ nk (xs.take i) (gi xs i) = false
def w9 (xs:List Int) (n:Int):Bool:=decide (∀ i,i < xs.length → inB (gi xs i) 1 999999 = true ∧ nk (xs.take i) (gi xs i) = false) && (xs.length == 0 || (xs.length:Int) == n)
def G1 (N:Net) (k j:Nat) (a p:Int):Prop :=
 inB a 0 ((N.ends.length:Int) - 1) = true ∧ inB p 0 (((gl N.ends a.toNat).length:Int) - 1) = true ∧ gp (gl N.ends a.toNat) p.toNat = ((k:Int),(j:Int))
def tw (N:Net) (k j:Nat):Prop:=G1 N k j (gp (gl N.ends k) j).1 (gp (gl N.ends k) j).2
def Sw (N:Net) (k:Nat):Prop:=(gl N.ends k).length ≤ 6 ∧ ∀ j,j < (gl N.ends k).length → tw N k j
def G0 (N:Net):Prop:=∀ k,k < N.ends.length → Sw N k
open Classical in
noncomputable def bg (N:Net):Bool :=
 inB N.ends.length 1 40 && w9 N.ids N.ends.length && (N.inputs.length == N.ends.length) && qq N.inputs 0 9 && decide (G0 N)
theorem fm {N:Net}:bg N = true ↔ inB N.ends.length 1 40 = true ∧ w9 N.ids N.ends.length = true ∧ N.inputs.length = N.ends.length ∧ qq N.inputs 0 9 = true ∧ G0 N:=by
 simp [bg,and_assoc]
theorem dy {N:Net} (h:¬ (inB N.ends.length 1 40 = true ∧ w9 N.ids N.ends.length = true ∧ N.inputs.length = N.ends.length ∧ qq N.inputs 0 9 = true ∧ G0 N)):bg N = false:=by
 rw [← Bool.not_eq_true,fm]; exact h
end
section
def nw:Nat → (Nat → Int) → Int
 | 0,_=>0
 | n + 1,f=>nw n f + f n
theorem H0 {f g:Nat → Int}:∀ n,(∀ i,i < n → f i = g i) → nw n f = nw n g
 | 0,_=>rfl
 | n + 1,h=>by rw [nw,nw,H0 n fun i hi=>h i (by omega),h n (by omega)]
theorem Kq {f:Nat → Int} (n:Nat) (h:∀ i,i < n → f i = 0):nw n f = 0:=by
 induction n with
 | zero=>rfl
 | succ n ih=>rw [nw,ih fun i hi=>h i (by omega),h n (by omega)]; rfl
theorem Fz {f:Nat → Int} (n:Nat) (h:∀ i,i < n → 0 ≤ f i):0 ≤ nw n f:=by
 induction n with
 | zero=>exact Int.le_refl _
 | succ n ih=>have:=ih fun i hi=>h i (by omega); have:=h n (by omega); rw [nw]; omega
theorem Kr {f:Nat → Int} (n:Nat) (h:∀ i,i < n → 0 ≤ f i) {x:Nat} (hx:x < n):f x ≤ nw n f:=by
 induction n with
 | zero=>omega
 | succ n ih =>
  rw [nw]
  by_cases e:x = n
  ·subst e; have:=Fz x fun i hi=>h i (by omega); omega
  ·have:=ih (fun i hi=>h i (by omega)) (by omega); have:=h n (by omega); omega
theorem Lx {s:List Int} {x u:Nat} {c:Int} (hx:x < s.length):gi (s.set x c) u = if u = x then c else gi s u:=by
 simp only [gi,List.getD_eq_getElem?_getD,List.getElem?_set]
 by_cases h:x = u
 ·subst h; simp [hx]
 ·rw [if_neg h,if_neg (fun e=>h e.symm)]
end
section
theorem l8 {ess:List (List (Int × Int))} {i j:Nat} {es:List (Int × Int)} (hi:i < ess.length):gl (ess.set i es) j = if j = i then es else gl ess j:=by
 unfold gl;simp only [List.getD_eq_getElem?_getD,List.getElem?_set]
 by_cases h:i = j
 ·subst h; simp [hi]
 ·have:¬ j = i:=fun e=>h e.symm;simp [h,this]
def pt (ess:List (List (Int × Int))) (a i:Nat):Int × Int:=gp (gl ess a) i
def dg (ess:List (List (Int × Int))) (a:Nat):Nat:=(gl ess a).length
def Sym (ess:List (List (Int × Int))):Prop:=∀ a i,a < ess.length → i < dg ess a → ∃ b j:Nat,pt ess a i = ((b:Int),(j:Int)) ∧ b < ess.length ∧ j < dg ess b ∧ pt ess b j = ((a:Int),(i:Int))
theorem L3 {ess:List (List (Int × Int))} {a:Nat} (h:¬ a < ess.length):dg ess a = 0:=by
 unfold dg gl;simp only [List.getD_eq_getElem?_getD];rw [List.getElem?_eq_none (by omega)];rfl
theorem Cu {xs ys:List (Int × Int)} {i:Nat}:gp (xs ++ ys) i = if i < xs.length then gp xs i else gp ys (i - xs.length):=by
 unfold gp;simp only [List.getD_eq_getElem?_getD]
 by_cases h:i < xs.length
 ·rw [if_pos h,List.getElem?_append_left h]
 ·rw [if_neg h,List.getElem?_append_right (by omega)]
theorem vf {N:Net}:G0 N ↔ (∀ k,k < N.ends.length → dg N.ends k ≤ 6) ∧ Sym N.ends:=by
 constructor
 ·intro h;refine ⟨fun k hk=>(h k hk).1,fun a i ha hi=>?_⟩;obtain ⟨h1,h2,h3⟩:=(h a ha).2 i hi;rw [db] at h1 h2;refine ⟨(gp (gl N.ends a) i).1.toNat,(gp (gl N.ends a) i).2.toNat,?_,by omega,by unfold dg; omega,h3⟩;unfold pt
  ext <;> simp <;> omega
 ·rintro ⟨h1,h2⟩ k hk;refine ⟨h1 k hk,fun j hj=>?_⟩;obtain ⟨b,i,e,hb,hi,e2⟩:=h2 k j hk hj;unfold pt at e e2;unfold dg at hi;unfold tw G1;rw [e];simp only [Int.toNat_natCast];exact ⟨db.2 (by omega),db.2 (by omega),e2⟩
def dn (n:Nat):Net:=⟨List.replicate n [],[],List.replicate n 0⟩
theorem pi {n i:Nat}:gl (List.replicate n []) i = []:=by
 unfold gl;simp only [List.getD_eq_getElem?_getD,List.getElem?_replicate];split <;> rfl
theorem Sym.empty (n:Nat):Sym (List.replicate n []):=fun a i ha hi=>by
 have:dg (List.replicate n []) a = 0:=by
  unfold dg gl;simp only [List.getD_eq_getElem?_getD,List.getElem?_replicate];split <;> rfl
 omega
def oe (ess:List (List (Int × Int))) (v x:Nat):List (List (Int × Int)) :=
 let i:=(gl ess v).length
 let j:=(gl ess x).length + (if v = x then 1 else 0)
 let ess1:=ess.set v (gl ess v ++ [((x:Int),(j:Int))])
 ess1.set x (gl ess1 x ++ [((v:Int),(i:Int))])
def od (N:Net) (v x:Nat):Net:={ N with ends:=oe N.ends v x }
theorem li (ess:List (List (Int × Int))) (v x:Nat):(oe ess v x).length = ess.length:=by simp [oe]
theorem w4 {ess:List (List (Int × Int))} {v x:Nat} (hv:v < ess.length) (hx:x < ess.length) (a:Nat) :
 gl (oe ess v x) a = gl ess a ++ (if a = v then [((x:Int),((dg ess x + (if v = x then 1 else 0):Nat):Int))] else []) ++ (if a = x then [((v:Int),(dg ess v:Int))] else []):=by
 unfold oe;simp only;rw [l8 (by simpa using hx)]
 by_cases h1:a = x
 ·subst h1;rw [if_pos rfl,if_pos rfl,l8 hv]
  by_cases h2:a = v
  ·subst h2; simp [dg]
  ·rw [if_neg h2,if_neg h2]; simp [dg]
 ·rw [if_neg h1,if_neg h1,l8 hv]
  by_cases h2:a = v
  ·subst h2; simp [dg]
  ·rw [if_neg h2,if_neg h2]; simp
theorem w5 {ess:List (List (Int × Int))} {v x:Nat} (hv:v < ess.length) (hx:x < ess.length) (a:Nat):dg (oe ess v x) a = dg ess a + (if a = v then 1 else 0) + (if a = x then 1 else 0):=by
 unfold dg;rw [w4 hv hx];simp only [List.length_append]
 congr 1
 ·congr 1; split <;> rfl
 ·split <;> rfl
theorem E5 {ess:List (List (Int × Int))} {v x:Nat} (hv:v < ess.length) (hx:x < ess.length) {a i:Nat} (hi:i < dg ess a):pt (oe ess v x) a i = pt ess a i:=by
 unfold pt;rw [w4 hv hx,List.append_assoc,Cu,if_pos (show i < (gl ess a).length from hi)]
theorem uv {ess:List (List (Int × Int))} {v x:Nat} (hv:v < ess.length) (hx:x < ess.length):pt (oe ess v x) v (dg ess v) = ((x:Int),((dg ess x + (if v = x then 1 else 0):Nat):Int)):=by
 unfold pt;rw [w4 hv hx,List.append_assoc,Cu,if_neg (by simp [dg]),if_pos rfl];simp [dg,gp]
theorem uu {ess:List (List (Int × Int))} {v x:Nat} (hv:v < ess.length) (hx:x < ess.length):pt (oe ess v x) x (dg ess x + (if v = x then 1 else 0)) = ((v:Int),(dg ess v:Int)):=by
 unfold pt;rw [w4 hv hx,Cu]
 by_cases h:v = x
 ·subst h;simp [dg,gp]
 ·have h2:¬ x = v:=fun e=>h e.symm;simp [dg,gp,h,h2]
theorem Sym.join {ess:List (List (Int × Int))} {v x:Nat} (h:Sym ess) (hv:v < ess.length) (hx:x < ess.length):Sym (oe ess v x):=by
 intro a i ha hi;rw [li] at ha ⊢;have hd:=w5 hv hx;rw [hd a] at hi
 by_cases h0:i < dg ess a
 ·obtain ⟨b,j,e,hb,hj,e2⟩:=h a i ha h0;refine ⟨b,j,by rw [E5 hv hx h0]; exact e,hb,by rw [hd b]; omega,by rw [E5 hv hx hj]; exact e2⟩
 ·by_cases hvx:v = x
  ·subst hvx
   by_cases hav:a = v
   ·subst hav;simp only [if_true] at hi
    by_cases h1:i = dg ess a
    ·subst h1;have e1:=uv hv hx;have e2:=uu hv hx;simp only [if_true] at e1 e2;exact ⟨a,dg ess a + 1,e1,ha,by rw [hd a]; simp,e2⟩
    ·obtain rfl:i = dg ess a + 1:=by omega
     have e1:=uv hv hx;have e2:=uu hv hx;simp only [if_true] at e1 e2;exact ⟨a,dg ess a,e2,ha,by rw [hd a]; simp; omega,e1⟩
   ·simp only [hav,if_false] at hi; omega
  ·have e1:=uv hv hx;have e2:=uu hv hx;simp only [hvx,if_false,Nat.add_zero] at e1 e2;have hxv:¬ x = v:=fun e=>hvx e.symm
   by_cases hav:a = v
   ·subst hav;simp only [if_true,hvx,if_false] at hi;obtain rfl:i = dg ess a:=by omega
    exact ⟨x,dg ess x,e1,hx,by rw [hd x]; simp [hxv],e2⟩
   ·by_cases hax:a = x
    ·subst hax;simp only [hav,if_false,if_true] at hi;obtain rfl:i = dg ess a:=by omega
     exact ⟨v,dg ess v,e2,hv,by rw [hd v]; simp; omega,e1⟩
    ·simp only [hav,hax,if_false] at hi; omega
end
section
def Zo (N:Net) (w:Nat) (i:Int):Nat:=(gp (gl N.ends w) i.toNat).1.toNat
def par (N:Net) (ps:List Int) (w:Nat):Nat:=Zo N w (gi ps w)
def up (N:Net) (ps:List Int):Nat → Nat → Nat
 | 0,v=>v
 | k + 1,v=>par N ps (up N ps k v)
theorem jf {N:Net} (h:bg N = true):1 ≤ N.ends.length ∧ N.ends.length ≤ 40:=by
 have:=db.1 (fm.1 h).1;omega
theorem Jg {N:Net} (h:bg N = true) {k:Nat} (hk:k < N.ends.length):(gl N.ends k).length ≤ 6:=((fm.1 h).2.2.2.2 k hk).1
theorem Jf {N:Net} (h:bg N = true):N.ids.length ≤ 40:=by
 have h1:=(fm.1 h).2.1;have h2:=jf h;unfold w9 at h1;simp only [Bool.and_eq_true,Bool.or_eq_true,beq_iff_eq] at h1;omega
theorem Qr {N:Net} (h:bg N = true) {k j:Nat} (hk:k < N.ends.length) (hj:j < (gl N.ends k).length) :
 0 ≤ (gp (gl N.ends k) j).1 ∧ (gp (gl N.ends k) j).1 < N.ends.length:=by
 have:=((fm.1 h).2.2.2.2 k hk).2 j hj;have:=db.1 this.1;omega
end
section
def cp (n:Nat):List Int:=(List.range n).map fun (i:Nat)=>(i:Int)
theorem dl (n:Nat):(cp n).length = n:=by simp [cp]
theorem Bk {n j:Nat} (h:j < n):gi (cp n) j = (j:Int):=by simp [cp,gi,h]
theorem ja {n:Nat} {x:Int}:x ∈ cp n ↔ 0 ≤ x ∧ x < n:=by
 unfold cp;rw [List.mem_map];constructor
 ·rintro ⟨i,hi,rfl⟩; rw [List.mem_range] at hi; omega
 ·rintro ⟨h1,h2⟩; exact ⟨x.toNat,by rw [List.mem_range]; omega,by omega⟩
theorem t7 (n:Nat):(cp n).Nodup:=by
 unfold cp;rw [List.Nodup,List.pairwise_map];exact List.nodup_range.imp fun h e=>h (by omega)
end
section
theorem Bj (n:Nat):cp (n + 1) = cp n ++ [(n:Int)]:=by
 simp [cp,List.range_succ]
theorem ri:∀ (n:Nat) (xs:List Int),xs.Nodup → (∀ x ∈ xs,0 ≤ x ∧ x < n) → xs.length ≤ n
 | 0,xs,_,h=>by
  rcases xs with _ | ⟨x,xs⟩
  ·simp
  ·have:=h x (by simp); omega
 | n + 1,xs,hd,h=>by
  have h1:=ri n (xs.erase (n:Int)) (hd.erase _) (fun x hx=>by
   have h2:=(List.Nodup.mem_erase_iff hd).1 hx;have h3:=h x h2.2;have h4:x ≠ (n:Int):=h2.1
   omega)
  have h2:=List.length_erase (a:=(n:Int)) (l:=xs);split at h2 <;> omega
theorem pe:∀ (n:Nat) (xs:List Int),xs.Nodup → (∀ x ∈ xs,0 ≤ x ∧ x < n) → xs.length = n → xs.Perm (cp n)
 | 0,xs,_,_,hl=>by
  obtain rfl:=List.eq_nil_of_length_eq_zero hl;simp [cp]
 | n + 1,xs,hd,h,hl=>by
  by_cases hm:(n:Int) ∈ xs
  ·have h1:=pe n (xs.erase (n:Int)) (hd.erase _) (fun x hx=>by
    have h2:=(List.Nodup.mem_erase_iff hd).1 hx;have h3:=h x h2.2;have h4:x ≠ (n:Int):=h2.1
    omega) (by rw [List.length_erase_of_mem hm]; omega)
   rw [Bj];exact ((List.perm_cons_erase hm).trans (h1.cons _)).trans (List.perm_append_singleton _ _).symm
  ·have:=ri n xs hd (fun x hx=>by
    have h3:=h x hx;have h4:x ≠ (n:Int):=fun e=>hm (e ▸ hx)
    omega)
   omega
end
section
def qu (ess:List (List (Int × Int))) (v:Nat):List (List (Int × Int)):=ess.set v (gl ess v ++ [((v:Int),(dg ess v:Int))])
theorem se (ess:List (List (Int × Int))) (v:Nat):(qu ess v).length = ess.length:=by simp [qu]
theorem H6 {ess:List (List (Int × Int))} {v:Nat} (hv:v < ess.length) (a:Nat):dg (qu ess v) a = dg ess a + (if a = v then 1 else 0):=by
 unfold dg qu;rw [l8 hv]
 by_cases h:a = v
 ·subst h; simp
 ·simp [h]
theorem Sym.stub {ess:List (List (Int × Int))} {v:Nat} (h:Sym ess) (hv:v < ess.length):Sym (qu ess v):=by
 have hd:=H6 hv
 have old:∀ {a i},i < dg ess a → pt (qu ess v) a i = pt ess a i:=fun {a i} hi=>by
  unfold pt qu;rw [l8 hv]
  by_cases h:a = v
  ·subst h; rw [if_pos rfl,Cu,if_pos (show i < (gl ess a).length from hi)]
  ·rw [if_neg h]
 intro a i ha hi;rw [se] at ha ⊢;rw [hd a] at hi
 by_cases h0:i < dg ess a
 ·obtain ⟨b,j,e,hb,hj,e2⟩:=h a i ha h0;exact ⟨b,j,by rw [old h0]; exact e,hb,by rw [hd b]; omega,by rw [old hj]; exact e2⟩
 ·by_cases hav:a = v
  ·subst hav;simp only [if_true] at hi;obtain rfl:i = dg ess a:=by omega
   have e:pt (qu ess a) a (dg ess a) = ((a:Int),(dg ess a:Int)):=by
    unfold pt qu;rw [l8 hv,if_pos rfl,Cu,if_neg (by simp [dg])];simp [dg,gp]
   exact ⟨a,dg ess a,e,ha,by rw [hd a]; simp,e⟩
  ·simp only [hav,if_false] at hi; omega
def iq (n:Nat) (es:List (Int × Int)):List (Int × Int):=es.map fun e=>(e.1 + n,e.2)
def lr (e1 e2:List (List (Int × Int))):List (List (Int × Int)):=e1 ++ e2.map (iq e1.length)
theorem lm (e1 e2:List (List (Int × Int))):(lr e1 e2).length = e1.length + e2.length:=by simp [lr]
theorem lq {e1 e2:List (List (Int × Int))} {a:Nat} (h:a < e1.length):gl (lr e1 e2) a = gl e1 a:=by
 unfold gl lr;simp only [List.getD_eq_getElem?_getD];rw [List.getElem?_append_left h]
theorem lp {e1 e2:List (List (Int × Int))} {a:Nat} (h:a < e2.length):gl (lr e1 e2) (e1.length + a) = iq e1.length (gl e2 a):=by
 unfold gl lr;simp only [List.getD_eq_getElem?_getD];rw [List.getElem?_append_right (by omega)];simp [h]
theorem Je {n:Nat} {es:List (Int × Int)} {i:Nat} (h:i < es.length):gp (iq n es) i = ((gp es i).1 + n,(gp es i).2):=by
 unfold gp iq;simp [h]
theorem Sym.union {e1 e2:List (List (Int × Int))} (h1:Sym e1) (h2:Sym e2):Sym (lr e1 e2):=by
 intro a i ha hi;rw [lm] at ha ⊢
 by_cases hl:a < e1.length
 ·have hi':i < dg e1 a:=by unfold dg at hi ⊢; rwa [lq hl] at hi
  obtain ⟨b,j,e,hb,hj,e2'⟩:=h1 a i hl hi';refine ⟨b,j,?_,by omega,?_,?_⟩
  ·unfold pt at e ⊢; rw [lq hl]; exact e
  ·unfold dg at hj ⊢; rw [lq hb]; exact hj
  ·unfold pt at e2' ⊢; rw [lq hb]; exact e2'
 ·obtain ⟨a',rfl⟩:∃ a',a = e1.length + a':=⟨a - e1.length,by omega⟩;have ha':a' < e2.length:=by omega
  have hi':i < dg e2 a':=by unfold dg at hi ⊢; rw [lp ha'] at hi; simpa [iq] using hi
  obtain ⟨b,j,e,hb,hj,e2'⟩:=h2 a' i ha' hi';unfold pt at e e2';refine ⟨e1.length + b,j,?_,by omega,?_,?_⟩
  ·unfold pt;rw [lp ha',Je hi',e]
   ext <;> simp; omega
  ·unfold dg at hj ⊢; rw [lp hb]; simpa [iq] using hj
  ·unfold pt;rw [lp hb,Je hj,e2']
   ext <;> simp; omega
def piN (π:List Int) (v a i:Nat):Nat:=if a = v then (gi π i).toNat else i
def B3 (π:List Int) (v:Nat) (e:Int × Int):Int × Int:=if e.1 = v then (e.1,gi π e.2.toNat) else e
def nh (ess:List (List (Int × Int))) (v:Nat) (π:List Int):List (List (Int × Int)) :=
 (List.range ess.length).map fun a=>if a = v then (List.range (dg ess v)).map fun (i:Nat)=>B3 π v (pt ess v (π.idxOf (i:Int))) else (gl ess a).map (B3 π v)
theorem mm {π:List Int} {d:Nat} (hp:π.Perm (cp d)) {i:Nat} (hi:i < d):∃ k:Nat,gi π i = k ∧ k < d:=by
 have hl:π.length = d:=by rw [hp.length_eq,dl]
 have hm:gi π i ∈ cp d:=hp.mem_iff.1 (by rw [bt (by omega)]; exact List.getElem_mem _);obtain ⟨h1,h2⟩:=ja.1 hm;exact ⟨(gi π i).toNat,by omega,by omega⟩
theorem Ip {π:List Int} {d:Nat} (hp:π.Perm (cp d)) {k:Nat} (hk:k < d):π.idxOf (k:Int) < d ∧ gi π (π.idxOf (k:Int)) = k:=by
 have hl:π.length = d:=by rw [hp.length_eq,dl]
 have hm:(k:Int) ∈ π:=hp.mem_iff.2 (ja.2 (by omega));have h1:=List.idxOf_lt_length_iff.2 hm;exact ⟨by omega,by rw [bt h1]; exact List.getElem_idxOf h1⟩
theorem B4 {π:List Int} {d:Nat} (hp:π.Perm (cp d)) {i j:Nat} (hi:i < d) (hj:j < d) (e:gi π i = gi π j):i = j:=by
 have hl:π.length = d:=by rw [hp.length_eq,dl]
 have hn:π.Nodup:=hp.nodup_iff.2 (t7 d);rw [bt (by omega),bt (by omega)] at e;exact (List.getElem_inj hn).1 e
theorem lx (ess:List (List (Int × Int))) (v:Nat) (π:List Int):(nh ess v π).length = ess.length:=by simp [nh]
theorem yf {ess:List (List (Int × Int))} {v:Nat} {π:List Int} {a:Nat} (ha:a < ess.length) :
 gl (nh ess v π) a = if a = v then (List.range (dg ess v)).map fun (i:Nat)=>B3 π v (pt ess v (π.idxOf (i:Int))) else (gl ess a).map (B3 π v):=by
 have h1:a < (nh ess v π).length:=by rw [lx]; exact ha
 rw [jg h1];simp [nh]
theorem si {ess:List (List (Int × Int))} {v:Nat} {π:List Int} (a:Nat):dg (nh ess v π) a = dg ess a:=by
 by_cases ha:a < ess.length
 ·unfold dg;rw [yf ha]
  by_cases h:a = v
  ·subst h; simp [dg]
  ·simp [h]
 ·rw [L3 ha,L3 (by rw [lx]; exact ha)]
theorem nz {ess:List (List (Int × Int))} {v:Nat} {π:List Int} (hp:π.Perm (cp (dg ess v))) {a i:Nat} (ha:a < ess.length) (hi:i < dg ess a):piN π v a i < dg ess a ∧ pt (nh ess v π) a (piN π v a i) = B3 π v (pt ess a i):=by
 unfold piN
 by_cases h:a = v
 ·subst h;obtain ⟨k,hk,hkd⟩:=mm hp hi;rw [if_pos rfl,hk,Int.toNat_natCast];refine ⟨hkd,?_⟩;obtain ⟨h1,h2⟩:=Ip hp hkd;have h3:π.idxOf (k:Int) = i:=B4 hp h1 hi (by rw [h2,hk]);unfold pt at *;rw [yf ha,if_pos rfl];rw [gb (by simpa using hkd)];simp [h3,pt]
 ·rw [if_neg h];refine ⟨hi,?_⟩;unfold pt;have hi2:i < (gl ess a).length:=hi;rw [yf ha,if_neg h,gb (by simpa using hi2),gb hi2,List.getElem_map]
theorem Io {ess:List (List (Int × Int))} {v:Nat} {π:List Int} (hp:π.Perm (cp (dg ess v))) {a i:Nat} (hi:i < dg ess a):∃ j,j < dg ess a ∧ piN π v a j = i:=by
 by_cases h:a = v
 ·subst h;obtain ⟨h1,h2⟩:=Ip hp hi;exact ⟨_,h1,by unfold piN; rw [if_pos rfl,h2,Int.toNat_natCast]⟩
 ·exact ⟨i,hi,by unfold piN; rw [if_neg h]⟩
theorem As {ess:List (List (Int × Int))} {π:List Int} {v b j:Nat} (hp:π.Perm (cp (dg ess v))) (hj:j < dg ess b):B3 π v ((b:Int),(j:Int)) = ((b:Int),(piN π v b j:Int)):=by
 unfold B3 piN
 by_cases h:b = v
 ·subst h;obtain ⟨k,hk,_⟩:=mm hp hj;simp [hk]
 ·have h2:¬ ((b:Int) = (v:Int)):=by omega
  simp [h,h2]
theorem Sym.ports {ess:List (List (Int × Int))} {v:Nat} {π:List Int} (h:Sym ess) (hp:π.Perm (cp (dg ess v))):Sym (nh ess v π):=by
 intro a i' ha hi';rw [lx] at ha ⊢;rw [si] at hi';obtain ⟨i,hi,rfl⟩:=Io hp hi';obtain ⟨b,j,e,hb,hj,e2⟩:=h a i ha hi;refine ⟨b,piN π v b j,?_,hb,by rw [si]; exact (nz hp hb hj).1,?_⟩
 ·rw [(nz hp ha hi).2,e,As hp hj]
 ·rw [(nz hp hb hj).2,e2,As hp hi]
end
section
def er (N:Net):Prop:=N.ends.length ≤ 262144 ∧ (∀ i,i < N.ends.length → (gl N.ends i).length ≤ 262144) ∧ N.ids.length ≤ 262144 ∧ N.inputs.length ≤ 262144
def K6 (N:Net) (v:Nat) (π:List Int):Net:={ N with ends:=nh N.ends v π }
def Bm (N:Net) (v:Nat):Net:={ N with ends:=qu N.ends v }
def jp (M N:Net):Net:=⟨lr M.ends N.ends,M.ids ++ N.ids,M.inputs ++ N.inputs⟩
structure Alike (N N':Net):Prop where
 len:N'.ends.length = N.ends.length
 deg:∀ a,dg N'.ends a = dg N.ends a
 sym:Sym N'.ends
 ids:N'.ids = N.ids
 ins:N'.inputs.length = N.inputs.length
theorem Alike.small {N N':Net} (h:Alike N N') (hs:er N):er N':=by
 refine ⟨by rw [h.len]; exact hs.1,fun i hi=>?_,by rw [h.ids]; exact hs.2.2.1,by rw [h.ins]; exact hs.2.2.2⟩;have:=h.deg i;unfold dg at this;rw [this];exact hs.2.1 i (by rw [← h.len]; exact hi)
theorem Alike.ports {N N':Net} (h:Alike N N') {v:Nat} {π:List Int} (hp:π.Perm (cp (dg N'.ends v))):Alike N (K6 N' v π) :=
 ⟨(lx _ _ _).trans h.len,fun a=>(si a).trans (h.deg a),h.sym.ports hp,h.ids,h.ins⟩
end
section
structure Drawn (m d:Nat) (N:Net):Prop where
 pos:1 ≤ N.ends.length
 len:N.ends.length ≤ m
 sym:Sym N.ends
 deg:∀ a,dg N.ends a ≤ d
 ids:N.ids.length ≤ m
 ins:N.inputs.length = N.ends.length
theorem Drawn.mono {m d m' d':Nat} {N:Net} (h:Drawn m d N) (hm:m ≤ m') (hd:d ≤ d'):Drawn m' d' N :=
 ⟨h.pos,by have:=h.len; omega,h.sym,fun a=>by have:=h.deg a; omega,by have:=h.ids; omega,h.ins⟩
theorem Drawn.small {m d:Nat} {N:Net} (h:Drawn m d N) (hm:m ≤ 262144) (hd:d ≤ 262144):er N :=
 ⟨by have:=h.len; omega,fun i _=>by have:=h.deg i; unfold dg at this; omega,by have:=h.ids; omega,by have:=h.ins; have:=h.len; omega⟩
theorem Drawn.empty {n m:Nat} (h1:1 ≤ n) (h2:n ≤ m):Drawn m 0 (dn n) :=
 ⟨by simp [dn]; exact h1,by simp [dn]; exact h2,Sym.empty n,fun a=>by unfold dg dn; simp only; rw [pi]; simp,by simp [dn],by simp [dn]⟩
theorem Drawn.join {m d:Nat} {N:Net} (h:Drawn m d N) {v x:Nat} (hv:v < N.ends.length) (hx:x < N.ends.length):Drawn m (d + 2) (od N v x) :=
 ⟨by have:=h.pos; simpa [od,li] using this,by have:=h.len; simpa [od,li] using this,h.sym.join hv hx,fun a=>by
  have h1:=w5 hv hx a;have:=h.deg a;show dg (oe N.ends v x) a ≤ _;rw [h1]
  split <;> split <;> omega,h.ids,by have:=h.ins; simpa [od,li] using this⟩
theorem Drawn.stub {m d:Nat} {N:Net} (h:Drawn m d N) {v:Nat} (hv:v < N.ends.length):Drawn m (d + 2) (Bm N v) :=
 ⟨by have:=h.pos; simpa [Bm,se] using this,by have:=h.len; simpa [Bm,se] using this,h.sym.stub hv,fun a=>by
  have h1:=H6 hv a;have:=h.deg a;show dg (qu N.ends v) a ≤ _;rw [h1]
  split <;> omega,h.ids,by have:=h.ins; simpa [Bm,se] using this⟩
theorem Drawn.alike {m d:Nat} {N N':Net} (h:Drawn m d N) (ha:Alike N N'):Drawn m d N' :=
 ⟨by rw [ha.len]; exact h.pos,by rw [ha.len]; exact h.len,ha.sym,fun a=>by rw [ha.deg]; exact h.deg a,by rw [ha.ids]; exact h.ids,by rw [ha.ins,ha.len]; exact h.ins⟩
theorem Drawn.union {m m' d d':Nat} {M N:Net} (h:Drawn m d M) (k:Drawn m' d' N):Drawn (m + m') (max d d') (jp M N):=by
 refine ⟨?_,?_,h.sym.union k.sym,fun a=>?_,?_,?_⟩
 ·have:=h.pos; simp only [jp,lm]; omega
 ·have:=h.len; have:=k.len; simp only [jp,lm]; omega
 ·show dg (lr M.ends N.ends) a ≤ _;have h1:=h.deg a;unfold dg at *
  rcases Nat.lt_or_ge a M.ends.length with ha | ha
  ·rw [lq ha]; omega
  ·rcases Nat.lt_or_ge (a - M.ends.length) N.ends.length with hb | hb
   ·have e:=lp (e1:=M.ends) hb;rw [show M.ends.length + (a - M.ends.length) = a by omega] at e;rw [e];have:=k.deg (a - M.ends.length);unfold dg at this;unfold iq;rw [List.length_map];omega
   ·have:¬ a < (lr M.ends N.ends).length:=by rw [lm]; omega
    have:=L3 this;unfold dg at this;omega
 ·have:=h.ids; have:=k.ids; simp only [jp,List.length_append]; omega
 ·have:=h.ins; have:=k.ins; simp only [jp,lm,List.length_append]; omega
structure Grow (m v:Nat) (N:Net):Prop where
 d:Drawn m (2 * v) N
 free:∀ a,v ≤ a → dg N.ends a = 0
 last:dg N.ends (v - 1) ≤ 1
theorem Grow.start {n m:Nat} (h1:1 ≤ n) (h2:n ≤ m):Grow m 1 (dn n):=by
 have hz:∀ a,dg (dn n).ends a = 0:=fun a=>by unfold dg dn; simp only; rw [pi]; rfl
 exact ⟨(Drawn.empty h1 h2).mono (Nat.le_refl _) (by omega),fun a _=>hz a,by rw [hz]; omega⟩
theorem Grow.next {m v x:Nat} {N:Net} (h:Grow m v N) (hv:v < N.ends.length) (hx:x < v):Grow m (v + 1) (od N x v):=by
 have hx':x < N.ends.length:=by omega
 refine ⟨(h.d.join hx' hv).mono (Nat.le_refl _) (by omega),fun a ha=>?_,?_⟩
 ·show dg (oe N.ends x v) a = 0;rw [w5 hx' hv a,h.free a (by omega),if_neg (by omega),if_neg (by omega)]
 ·show dg (oe N.ends x v) (v + 1 - 1) ≤ 1;rw [Nat.add_sub_cancel,w5 hx' hv v,h.free v (Nat.le_refl _),if_neg (by omega),if_pos rfl];omega
structure Tame (N:Net):Prop where
 len:N.ends.length ≤ 64
 deg:∀ a,dg N.ends a ≤ 600
 ids:N.ids.length ≤ 64
 ins:N.inputs.length ≤ 64
theorem Tame.small {N:Net} (h:Tame N):er N :=
 ⟨by have:=h.len; omega,fun i _=>by have:=h.deg i; unfold dg at this; omega,by have:=h.ids; omega,by have:=h.ins; omega⟩
theorem Drawn.tame {m d:Nat} {N:Net} (h:Drawn m d N) (hm:m ≤ 64) (hd:d ≤ 600):Tame N :=
 ⟨by have:=h.len; omega,fun a=>by have:=h.deg a; omega,by have:=h.ids; omega,by have:=h.ins; have:=h.len; omega⟩
theorem Drawn.withIds {m d:Nat} {N N':Net} (h:Drawn m d N) (hi:N'.ends = N.ends ∧ N'.inputs = N.inputs ∧ N'.ids.length = N.ends.length):Drawn m d N' :=
 ⟨by rw [hi.1]; exact h.pos,by rw [hi.1]; exact h.len,by rw [hi.1]; exact h.sym,fun a=>by rw [hi.1]; exact h.deg a,by rw [hi.2.2]; exact h.len,by rw [hi.2.1,hi.1]; exact h.ins⟩
theorem jaa {ess:List (List (Int × Int))} {a b:Nat} {es:List (Int × Int)} (ha:a < ess.length):dg (ess.set a es) b = if b = a then es.length else dg ess b:=by
 unfold dg;rw [l8 ha];split <;> rfl
theorem Z4 {ess:List (List (Int × Int))} {j:Nat} (h:¬ j < ess.length):gl ess j = []:=by
 unfold gl;rw [List.getD_eq_getElem?_getD,List.getElem?_eq_none (by omega)];rfl
theorem Xh {ess:List (List (Int × Int))} {e:List (Int × Int)} {j:Nat}:gl (ess ++ [e]) j = if j < ess.length then gl ess j else if j = ess.length then e else []:=by
 unfold gl;simp only [List.getD_eq_getElem?_getD];rw [List.getElem?_append]
 by_cases h:j < ess.length
 ·simp [h]
 ·by_cases h2:j = ess.length
  ·subst h2; simp
  ·simp only [h,h2,if_false];rw [List.getElem?_eq_none (by simp; omega)];rfl
theorem Xs {ess:List (List (Int × Int))} {a:Nat}:dg (ess ++ [[]]) a = dg ess a:=by
 unfold dg;rw [Xh]
 by_cases h:a < ess.length
 ·simp [h]
 ·rw [Z4 h];simp only [h,if_false];split <;> rfl
end
section
theorem Xl {e f:List (List (Int × Int))} (hl:e.length = f.length) (hd:∀ a,a < e.length → dg e a = dg f a) (hp:∀ a i,a < e.length → i < dg e a → pt e a i = pt f a i):e = f:=by
 apply List.ext_getElem hl;intro a h1 h2;have d1:=hd a h1;unfold dg at d1;rw [jg h1,jg h2] at d1;apply List.ext_getElem d1;intro i h3 h4;have:=hp a i h1 (by unfold dg; rw [jg h1]; exact h3);unfold pt at this;rw [jg h1,jg h2,gb h3,gb h4] at this;exact this
def qm (ess:List (List (Int × Int))) (a j:Nat) (p:Int × Int):List (List (Int × Int)):=ess.set a ((gl ess a).set j p)
theorem qw (ess:List (List (Int × Int))) (a j:Nat) (p:Int × Int):(qm ess a j p).length = ess.length:=by simp [qm]
theorem v8 {ess:List (List (Int × Int))} {a j:Nat} {p:Int × Int} (ha:a < ess.length) (b:Nat):dg (qm ess a j p) b = dg ess b:=by
 unfold dg qm;rw [l8 ha]
 by_cases h:b = a
 ·subst h; simp
 ·simp [h]
theorem sg {ess:List (List (Int × Int))} {a j:Nat} {p:Int × Int} (ha:a < ess.length) (hj:j < dg ess a) (b i:Nat):pt (qm ess a j p) b i = if b = a ∧ i = j then p else pt ess b i:=by
 unfold pt qm;rw [l8 ha]
 by_cases h:b = a
 ·subst h;rw [if_pos rfl];unfold gp;simp only [List.getD_eq_getElem?_getD,List.getElem?_set]
  by_cases h2:i = j
  ·subst h2;have hj':i < (gl ess b).length:=hj;simp [hj']
  ·have h3:¬ j = i:=fun e=>h2 e.symm;simp [h2,h3]
 ·simp [h]
def f7 (ess0:List (List (Int × Int))) (v:Nat) (π:List Int) (ess:List (List (Int × Int))) (i:Nat):List (List (Int × Int)) :=
 let e:=pt ess0 v i
 if e.1 = v then qm ess v (gi π i).toNat (e.1,gi π e.2.toNat) else qm (qm ess e.1.toNat e.2.toNat ((v:Int),gi π i)) v (gi π i).toNat e
def ec (ess0:List (List (Int × Int))) (v:Nat) (π:List Int):Nat → List (List (Int × Int))
 | 0=>ess0
 | k + 1=>f7 ess0 v π (ec ess0 v π k) k
theorem ug {ess:List (List (Int × Int))} {v:Nat} {π:List Int} (h:Sym ess) (hv:v < ess.length) (hp:π.Perm (cp (dg ess v))):∀ k,k ≤ dg ess v →
 (ec ess v π k).length = ess.length ∧ (∀ a,dg (ec ess v π k) a = dg ess a) ∧
 (∀ i,i < dg ess v → (i < k → pt (ec ess v π k) v (piN π v v i) = B3 π v (pt ess v i))) ∧
 (∀ a j,a < ess.length → a ≠ v → j < dg ess a → pt (ec ess v π k) a j = if (pt ess a j).1 = v ∧ (pt ess a j).2 < k then B3 π v (pt ess a j) else pt ess a j)
 | 0,_=>⟨rfl,fun _=>rfl,fun _ _ h=>absurd h (Nat.not_lt_zero _),fun a j ha hne hj=>by
  obtain ⟨b,i,e,_⟩:=h a j ha hj;show pt ess a j = _;rw [if_neg]
  rw [e]; simp⟩
 | k + 1,hk=>by
  obtain ⟨h1,h2,h3,h4⟩:=ug h hv hp k (by omega);have hkd:k < dg ess v:=by omega
  obtain ⟨b,q,e,hb,hq,e2⟩:=h v k hv hkd;obtain ⟨m,hm,hmd⟩:=mm hp hkd;have hpk:piN π v v k = m:=by unfold piN; rw [if_pos rfl,hm,Int.toNat_natCast]
  have hv1:v < (ec ess v π k).length:=by rw [h1]; exact hv
  have hm1:m < dg (ec ess v π k) v:=by rw [h2]; exact hmd
  show (f7 ess v π (ec ess v π k) k).length = _ ∧ (∀ a,dg (f7 ess v π (ec ess v π k) k) a = _) ∧ (∀ i,_ → (_ → pt (f7 ess v π (ec ess v π k) k) v _ = _)) ∧ (∀ a j,_ → _ → _ → pt (f7 ess v π (ec ess v π k) k) a j = _)
  generalize ec ess v π k = E at *
  unfold f7;simp only;rw [e,hm];simp only [Int.toNat_natCast]
  by_cases hbv:b = v
  ·subst hbv;obtain ⟨r,hr,hrd⟩:=mm hp hq;simp only [if_true];refine ⟨by rw [qw,h1],fun a=>by rw [v8 hv1,h2],fun i hi hik=>?_,fun a j ha hne hj=>?_⟩
   ·rw [sg hv1 hm1]
    by_cases hik2:i = k
    ·subst hik2;rw [if_pos ⟨rfl,hpk⟩,e,As hp hq,hr];unfold piN;rw [if_pos rfl,hr,Int.toNat_natCast]
    ·rw [if_neg]
     ·exact h3 i hi (by omega)
     ·rintro ⟨_,e3⟩;have:piN π b b i = piN π b b k:=e3.trans hpk.symm;unfold piN at this;simp only [if_true] at this;obtain ⟨m',hm',_⟩:=mm hp hi;exact hik2 (B4 hp hi hkd (by omega))
   ·rw [sg hv1 hm1,if_neg (fun x=>hne x.1),h4 a j ha hne hj];obtain ⟨c,p,e3,hc,hpp,e4⟩:=h a j ha hj;rw [e3]
    by_cases hcb:c = b
    ·subst hcb
     have hpk2:p ≠ k:=fun e5=>by
      subst e5;rw [e4] at e;have:=congrArg Prod.fst e;simp at this;omega
     by_cases hlt:p < k
     ·rw [if_pos (by simp; omega),if_pos (by simp; omega)]
     ·rw [if_neg (by simp; omega),if_neg (by simp; omega)]
    ·rw [if_neg (by simp; omega),if_neg (by simp; omega)]
  ·have hbv':¬ ((b:Int) = (v:Int)):=by omega
   rw [if_neg hbv'];have hb1:b < E.length:=by rw [h1]; exact hb
   have hq1:q < dg E b:=by rw [h2]; exact hq
   have hv2:v < (qm E b q ((v:Int),(m:Int))).length:=by rw [qw]; exact hv1
   have hm2:m < dg (qm E b q ((v:Int),(m:Int))) v:=by rw [v8 hb1]; exact hm1
   refine ⟨by rw [qw,qw,h1],fun a=>by rw [v8 hv2,v8 hb1,h2],fun i hi hik=>?_,fun a j ha hne hj=>?_⟩
   ·rw [sg hv2 hm2]
    by_cases hik2:i = k
    ·subst hik2;rw [if_pos ⟨rfl,hpk⟩,e];unfold B3;rw [if_neg hbv']
    ·rw [if_neg,sg hb1 hq1,if_neg (fun x=>hbv x.1.symm)]
     ·exact h3 i hi (by omega)
     ·rintro ⟨_,e3⟩;have:piN π v v i = piN π v v k:=e3.trans hpk.symm;unfold piN at this;simp only [if_true] at this;obtain ⟨m',hm',_⟩:=mm hp hi;exact hik2 (B4 hp hi hkd (by omega))
   ·rw [sg hv2 hm2,if_neg (fun x=>hne x.1),sg hb1 hq1]
    by_cases haj:a = b ∧ j = q
    ·obtain ⟨rfl,rfl⟩:=haj;rw [if_pos ⟨rfl,rfl⟩,e2,if_pos (by simp; omega),As hp hkd,hpk]
    ·rw [if_neg haj,h4 a j ha hne hj];obtain ⟨c,p,e3,hc,hpp,e4⟩:=h a j ha hj;rw [e3]
     by_cases hcv:c = v
     ·subst hcv
      have hpk2:p ≠ k:=fun e5=>by
       subst e5;rw [e4] at e;have t1:=congrArg Prod.fst e;have t2:=congrArg Prod.snd e;simp at t1 t2;exact haj ⟨by omega,by omega⟩
      by_cases hlt:p < k
      ·rw [if_pos (by simp; omega),if_pos (by simp; omega)]
      ·rw [if_neg (by simp; omega),if_neg (by simp; omega)]
     ·rw [if_neg (by simp; omega),if_neg (by simp; omega)]
theorem K7 {ess:List (List (Int × Int))} {v:Nat} {π:List Int} (h:Sym ess) (hv:v < ess.length) (hp:π.Perm (cp (dg ess v))):ec ess v π (dg ess v) = nh ess v π:=by
 obtain ⟨h1,h2,h3,h4⟩:=ug h hv hp (dg ess v) (Nat.le_refl _);apply Xl
 ·rw [h1,lx]
 ·intro a _; rw [h2,si]
 ·intro a i ha hi;rw [h1] at ha;rw [h2] at hi
  by_cases hav:a = v
  ·subst hav;obtain ⟨j,hj,rfl⟩:=Io hp hi;rw [h3 j hj hj,(nz hp ha hj).2]
  ·have e1:=(nz hp ha hi).2;have e0:piN π v a i = i:=by unfold piN; rw [if_neg hav]
   rw [e0] at e1;rw [h4 a i ha hav hi,e1];obtain ⟨c,p,e3,hc,hpp,e4⟩:=h a i ha hi;rw [e3]
   by_cases hcv:c = v
   ·subst hcv;rw [if_pos (by simp; omega)]
   ·rw [if_neg (by simp; omega)];unfold B3;rw [if_neg (by simp; omega)]
end
section
def keepB (g o:Int × Int) (k i:Nat):Bool:=!(((k:Int),(i:Int)) == g) && !(((k:Int),(i:Int)) == o)
end
section
inductive VT where
 | mk (deg inp:Nat) (ports:List Nat) (parts:List VT):VT
namespace VT
def deg:VT → Nat | mk d _ _ _=>d
def inp:VT → Nat | mk _ i _ _=>i
def ports:VT → List Nat | mk _ _ ps _=>ps
end VT
end
section
def jd (k:Nat → List Int) (v:Nat):Bool:=(List.range v).all fun u=>k u != k v
theorem gm {k:Nat → List Int} {v:Nat}:jd k v = true ↔ ∀ u,u < v → k u ≠ k v:=by simp [jd]
theorem Gg {k:Nat → List Int} {v:Nat} (h:jd k v = false):∃ u,u < v ∧ k u = k v:=by
 apply Classical.byContradiction;intro hn;have:jd k v = true:=gm.2 fun u hu e=>hn ⟨u,hu,e⟩;rw [this] at h; cases h
def cnB (k:Nat → List Int) (v:Nat):Nat:=((List.range v).filter (jd k)).length
theorem C8 (k:Nat → List Int):cnB k 0 = 0:=rfl
theorem dz (k:Nat → List Int) (v:Nat):cnB k (v + 1) = cnB k v + (if jd k v = true then 1 else 0):=by
 unfold cnB;rw [List.range_succ,List.filter_append,List.length_append]
 by_cases h:jd k v = true <;> simp [h]
theorem Jx {k:Nat → List Int} {u v:Nat} (h:u ≤ v):cnB k u ≤ cnB k v:=by
 induction h with
 | refl=>exact Nat.le_refl _
 | step _ ih=>rw [dz]; omega
theorem Mg (k:Nat → List Int) (v:Nat):cnB k v ≤ v:=by
 unfold cnB;have:=List.length_filter_le (jd k) (List.range v);rwa [List.length_range] at this
theorem Xx (k:Nat → List Int) {n:Nat} (h:0 < n):0 < cnB k n:=by
 have h1:jd k 0 = true:=gm.2 fun u hu=>absurd hu (Nat.not_lt_zero _);have h2:cnB k 1 = 1:=by rw [dz k 0,if_pos h1,C8]
 have:=Jx (k:=k) (u:=1) (v:=n) (by omega);omega
theorem F7 (k:Nat → List Int) (v:Nat):∃ u,u ≤ v ∧ k u = k v ∧ jd k u = true:=by
 induction v using Nat.strongRecOn with
 | ind v ih =>
  by_cases h:jd k v = true
  ·exact ⟨v,Nat.le_refl _,rfl,h⟩
  ·obtain ⟨u,hu,e⟩:=Gg (by simpa using h);obtain ⟨u',h1,h2,h3⟩:=ih u hu;exact ⟨u',by omega,h2.trans e,h3⟩
noncomputable def rep (k:Nat → List Int) (v:Nat):Nat:=Classical.choose (F7 k v)
theorem Kx (k:Nat → List Int) (v:Nat):rep k v ≤ v:=(Classical.choose_spec (F7 k v)).1
theorem k9 (k:Nat → List Int) (v:Nat):k (rep k v) = k v:=(Classical.choose_spec (F7 k v)).2.1
theorem mj (k:Nat → List Int) (v:Nat):jd k (rep k v) = true:=(Classical.choose_spec (F7 k v)).2.2
theorem um {k:Nat → List Int} {u v:Nat} (h:jd k u = true) (h':jd k v = true) (e:k u = k v):u = v:=by
 rcases Nat.lt_trichotomy u v with h1 | h1 | h1
 ·exact absurd e (gm.1 h' u h1)
 ·exact h1
 ·exact absurd e.symm (gm.1 h v h1)
noncomputable def nm (k:Nat → List Int) (v:Nat):Nat:=cnB k (rep k v)
theorem Iy {k:Nat → List Int} {u v:Nat} (e:k u = k v):nm k u = nm k v:=by
 unfold nm;rw [um (mj k u) (mj k v) (by rw [k9 k u,k9 k v,e])]
theorem yl {k:Nat → List Int} {v:Nat} (h:jd k v = true):nm k v = cnB k v:=by
 unfold nm;rw [um (mj k v) h (k9 k v)]
theorem Va {k:Nat → List Int} {u v:Nat} (h:jd k u = true) (hv:u < v):cnB k u < cnB k v:=by
 have h1:=dz k u;rw [if_pos h] at h1;have:=Jx (k:=k) (u:=u + 1) (v:=v) (by omega);omega
theorem Zp {k:Nat → List Int} {u v:Nat} (e:nm k u = nm k v):k u = k v:=by
 unfold nm at e
 rcases Nat.lt_trichotomy (rep k u) (rep k v) with h | h | h
 ·have:=Va (mj k u) h; omega
 ·rw [← k9 k u,h,k9 k v]
 ·have:=Va (mj k v) h; omega
theorem Yi {k:Nat → List Int} {v n:Nat} (h:v < n):nm k v < cnB k n:=Va (mj k v) (by have:=Kx k v; omega)
theorem ja8 {k:Nat → List Int} (j:Nat):max (cnB k j) (nm k j + 1) = cnB k (j + 1):=by
 rw [dz]
 by_cases h:jd k j = true
 ·rw [if_pos h,yl h]; omega
 ·rw [if_neg h];obtain ⟨u,hu,e⟩:=Gg (by simpa using h);have:=Yi (k:=k) hu;rw [Iy e] at this;omega
noncomputable def rz (k:Nat → List Int) (n:Nat):List Int:=(List.range n).map fun v=>(nm k v:Int)
theorem xi (k:Nat → List Int) (n:Nat):(rz k n).length = n:=by simp [rz]
theorem sx {k:Nat → List Int} {n v:Nat} (h:v < n):gi (rz k n) v = (nm k v:Int):=by simp [rz,gi,h]
theorem Xy {k:Nat → List Int} {n u v:Nat} (hu:u < n) (hv:v < n):gi (rz k n) u = gi (rz k n) v ↔ k u = k v:=by
 rw [sx hu,sx hv];exact ⟨fun h=>Zp (by omega),fun h=>by rw [Iy h]⟩
def Finer (n:Nat) (k' k:Nat → List Int):Prop:=∀ u v,u < n → v < n → k' u = k' v → k u = k v
theorem Finer.new {n:Nat} {k' k:Nat → List Int} (h:Finer n k' k) {v:Nat} (hv:v < n) (hn:jd k v = true):jd k' v = true :=
 gm.2 fun u hu e=>gm.1 hn u hu (h u v (by omega) hv e)
theorem Finer.cn {n:Nat} {k' k:Nat → List Int} (h:Finer n k' k):∀ m,m ≤ n → cnB k m ≤ cnB k' m
 | 0,_=>Nat.le_refl _
 | m + 1,hm=>by
  have ih:=h.cn m (by omega);rw [dz,dz]
  by_cases hn:jd k m = true
  ·rw [if_pos hn,if_pos (h.new (by omega) hn)]; omega
  ·rw [if_neg hn]; omega
theorem Finer.strict {n:Nat} {k' k:Nat → List Int} (h:Finer n k' k) {m:Nat} (hm:cnB k m < cnB k' m):∀ t,m + t ≤ n → cnB k (m + t) < cnB k' (m + t)
 | 0,_=>hm
 | t + 1,ht=>by
  have ih:=h.strict hm t (by omega);rw [← Nat.add_assoc,dz,dz]
  by_cases hn:jd k (m + t) = true
  ·rw [if_pos hn,if_pos (h.new (by omega) hn)]; omega
  ·rw [if_neg hn]; omega
theorem Finer.eq {n:Nat} {k' k:Nat → List Int} (h:Finer n k' k) (e:cnB k' n = cnB k n):Finer n k k':=by
 have key:∀ v,v < n → jd k' v = true → jd k v = true:=fun v hv h1=>by
  apply Classical.byContradiction;intro h2;have a1:=dz k v;have a2:=dz k' v;rw [if_neg h2] at a1;rw [if_pos h1] at a2;have a3:=h.cn v (by omega);have:=h.strict (m:=v + 1) (by omega) (n - (v + 1)) (by omega);rw [show v + 1 + (n - (v + 1)) = n by omega] at this;omega
 intro u v hu hv e';have r1:=Kx k' u;have r2:=Kx k' v;have n1:=key _ (by omega) (mj k' u);have n2:=key _ (by omega) (mj k' v);have e1:=h _ _ (by omega) hu (k9 k' u);have e2:=h _ _ (by omega) hv (k9 k' v);have:=um n1 n2 (by rw [e1,e2,e']);rw [← k9 k' u,this,k9 k' v]
def en (N:Net) (c:Option (List Int)) (v:Nat):List Int :=
 ((gl N.ends v).length:Int) :: gi N.inputs v :: (match c with | none=>[] | some c=>(gl N.ends v).flatMap fun e=>[e.2,gi c e.1.toNat])
theorem Cx {f:Int × Int → Int}:∀ {es fs:List (Int × Int)},es.length = fs.length → ((es.flatMap fun e=>[e.2,f e]) = (fs.flatMap fun e=>[e.2,f e]) ↔ ∀ i,i < es.length → (gp es i).2 = (gp fs i).2 ∧ f (gp es i) = f (gp fs i))
 | [],[],_=>by simp
 | [],_ :: _,h=>by simp at h
 | _ :: _,[],h=>by simp at h
 | e :: es,g :: fs,h=>by
  have ih:=Cx (f:=f) (es:=es) (fs:=fs) (by simpa using h);simp only [List.flatMap_cons,List.cons_append,List.nil_append,List.cons.injEq,ih];constructor
  ·rintro ⟨h1,h2,h3⟩ i hi
   rcases i with _ | i
   ·exact ⟨by simpa [gp] using h1,by simpa [gp] using h2⟩
   ·have:=h3 i (by simpa using hi);simpa [gp] using this
  ·intro hx;refine ⟨?_,?_,fun i hi=>?_⟩
   ·have:=(hx 0 (by simp)).1; simpa [gp] using this
   ·have:=(hx 0 (by simp)).2; simpa [gp] using this
   ·have:=hx (i + 1) (by simpa using hi); simpa [gp] using this
theorem lf {N:Net} {u v:Nat}:en N none u = en N none v ↔ (gl N.ends u).length = (gl N.ends v).length ∧ gi N.inputs u = gi N.inputs v:=by
 simp only [en,List.cons.injEq,and_true];constructor <;> rintro ⟨h1,h2⟩ <;> exact ⟨by omega,h2⟩
theorem fk {N:Net} {c:List Int} {u v:Nat}:en N (some c) u = en N (some c) v ↔ (gl N.ends u).length = (gl N.ends v).length ∧ gi N.inputs u = gi N.inputs v ∧
 ∀ i,i < (gl N.ends u).length → (gp (gl N.ends u) i).2 = (gp (gl N.ends v) i).2 ∧ gi c (gp (gl N.ends u) i).1.toNat = gi c (gp (gl N.ends v) i).1.toNat:=by
 simp only [en,List.cons.injEq];constructor
 ·rintro ⟨h1,h2,h3⟩;have hl:(gl N.ends u).length = (gl N.ends v).length:=by omega
  exact ⟨hl,h2,(Cx (f:=fun e=>gi c e.1.toNat) hl).1 h3⟩
 ·rintro ⟨h1,h2,h3⟩;exact ⟨by omega,h2,(Cx (f:=fun e=>gi c e.1.toNat) h1).2 h3⟩
noncomputable def bv (N:Net):Nat → List Int
 | 0=>rz (en N none) N.ends.length
 | t + 1=>rz (en N (some (bv N t))) N.ends.length
noncomputable def vk (N:Net):Nat → Nat → List Int
 | 0=>en N none
 | t + 1=>en N (some (bv N t))
theorem sc (N:Net) (t:Nat):bv N t = rz (vk N t) N.ends.length:=by cases t <;> rfl
theorem di (N:Net) (t:Nat):(bv N t).length = N.ends.length:=by rw [sc,xi]
noncomputable def br (N:Net) (t:Nat):Nat:=cnB (vk N t) N.ends.length
theorem gg {N:Net} {t u v:Nat} (hu:u < N.ends.length) (hv:v < N.ends.length):gi (bv N t) u = gi (bv N t) v ↔ vk N t u = vk N t v:=by rw [sc]; exact Xy hu hv
theorem fx {N:Net} {t v:Nat} (hv:v < N.ends.length):0 ≤ gi (bv N t) v ∧ gi (bv N t) v < br N t:=by
 rw [sc,sx hv];have:=Yi (k:=vk N t) hv;unfold br;omega
theorem ll (N:Net) (t:Nat):br N t ≤ N.ends.length:=Mg _ _
theorem xu {N:Net} (h:0 < N.ends.length) (t:Nat):0 < br N t:=Xx _ h
def Rng (N:Net):Prop:=0 < N.ends.length ∧ ∀ u i,u < N.ends.length → i < (gl N.ends u).length → (gp (gl N.ends u) i).1.toNat < N.ends.length
theorem ju {N:Net} (h:bg N = true):Rng N:=⟨by have:=jf h; omega,fun u i hu hi=>by have:=Qr h hu hi; omega⟩
theorem j4 {N:Net} (h:Rng N) {u i:Nat} (hu:u < N.ends.length) (hi:i < (gl N.ends u).length):(gp (gl N.ends u) i).1.toNat < N.ends.length:=h.2 u i hu hi
theorem vw {N:Net} (h:Rng N):∀ t,Finer N.ends.length (vk N (t + 1)) (vk N t)
 | 0=>fun u v _ _ e=>by
  obtain ⟨h1,h2,-⟩:=fk.1 e;exact lf.2 ⟨h1,h2⟩
 | t + 1=>fun u v hu hv e=>by
  obtain ⟨h1,h2,h3⟩:=fk.1 e;refine fk.2 ⟨h1,h2,fun i hi=>⟨(h3 i hi).1,?_⟩⟩;have n1:=j4 h hu hi;have n2:=j4 h hv (i:=i) (by omega);exact (gg n1 n2).2 (vw h t _ _ n1 n2 ((gg n1 n2).1 (h3 i hi).2))
theorem Kk {N:Net} (h:Rng N) (t:Nat):br N t ≤ br N (t + 1):=(vw h t).cn _ (Nat.le_refl _)
def IsSd (N:Net) (d:Nat):Prop:=br N (d + 1) = br N d ∧ ∀ s,s < d → br N (s + 1) ≠ br N s
theorem Hw {N:Net} (h:Rng N):∀ t,(∀ s,s < t → br N (s + 1) ≠ br N s) → t + 1 ≤ br N t
 | 0,_=>xu h.1 0
 | t + 1,hs=>by
  have ih:=Hw h t fun s hs'=>hs s (by omega);have h1:=hs t (by omega);have h2:=Kk h t;omega
theorem Hv {N:Net} (h:Rng N) {t:Nat} (hs:∀ s,s < t → br N (s + 1) ≠ br N s):t < N.ends.length:=by
 have h1:=Hw h t hs;have h2:=ll N t;omega
theorem Sp {N:Net} (h:Rng N):∃ d,IsSd N d:=by
 apply Classical.byContradiction;intro hn
 have key:∀ t,∀ s,s < t → br N (s + 1) ≠ br N s:=by
  intro t
  induction t with
  | zero=>intro s hs; omega
  | succ t ih =>
   intro s hs
   rcases Nat.lt_or_ge s t with h1 | h1
   ·exact ih s h1
   ·obtain rfl:s = t:=by omega
    exact fun e=>hn ⟨s,e,ih⟩
 have:=Hv h (key N.ends.length);omega
theorem IsSd.lt {N:Net} {d:Nat} (hd:IsSd N d) (h:Rng N):d < N.ends.length:=Hv h hd.2
theorem IsSd.all {N:Net} {d:Nat} (hd:IsSd N d) (h:Rng N):∀ t,Finer N.ends.length (vk N d) (vk N (d + t))
 | 0=>fun _ _ _ _ e=>e
 | t + 1=>fun u v hu hv e=>by
  have h0:=(vw h d).eq hd.1 u v hu hv e;obtain ⟨h1,h2,h3⟩:=fk.1 h0;refine fk.2 ⟨h1,h2,fun i hi=>⟨(h3 i hi).1,?_⟩⟩;have n1:=j4 h hu hi;have n2:=j4 h hv (i:=i) (by omega);exact (gg n1 n2).2 (hd.all h t _ _ n1 n2 ((gg n1 n2).1 (h3 i hi).2))
end
end Go.Proofs.YtfknckinfcicbaaGreat
