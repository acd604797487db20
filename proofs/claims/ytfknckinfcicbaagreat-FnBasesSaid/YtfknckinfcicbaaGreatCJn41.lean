/- Parts of the proof. -/
import Derived.Test.YtfknckinfcicbaaGreatCJn13
import Derived.Test.YtfknckinfcicbaaGreatCJn7
import Derived.Test.YtfknckinfcicbaaGreatCDix
import Derived.Test.YtfknckinfcicbaaGreatCJn39
import Derived.Test.YtfknckinfcicbaaGreatCIm1
import Derived.Test.YtfknckinfcicbaaGreatCJn9
import Derived.Test.YtfknckinfcicbaaGreatCJn26
import Derived.Test.YtfknckinfcicbaaGreatCJn31
import Derived.Test.YtfknckinfcicbaaGreatCJn32
import Derived.Test.YtfknckinfcicbaaGreatCJn28
import Derived.Test.YtfknckinfcicbaaGreatCDt
import Derived.Test.YtfknckinfcicbaaGreatCIm4
import Derived.Test.YtfknckinfcicbaaGreatCJn40
import Derived.Test.YtfknckinfcicbaaGreatCDcu
import Derived.Test.YtfknckinfcicbaaGreatCJn17
import Derived.Test.YtfknckinfcicbaaGreatCNw1
import Derived.Test.YtfknckinfcicbaaGreatCJn33
import Derived.Test.YtfknckinfcicbaaGreatCJn21
import Derived.StillTailTactics
import Derived.Test.YtfknckinfcicbaaGreatCJn23
import Derived.Test.YtfknckinfcicbaaGreatCJn19
import Derived.Lib.SlicesCompact
set_option linter.unusedSimpArgs false
set_option linter.unusedVariables false
namespace Go.Proofs.YtfknckinfcicbaaGreat
section
def qL (e:Int × Int × Int × Int):List Int:=[e.1,e.2.1,e.2.2.1,e.2.2.2]
theorem C3 (N:Net) (v:Nat):∀ m,iv N v m = (edN N v m).map qL
 | 0=>rfl
 | m + 1=>by
  rw [mv,C3 N v m,edN,C1]
  have:pk N v m = edP N v m:=by
   unfold pk edP;rw [Bool.eq_iff_iff];simp
  rw [this];split
  ·simp [qL]
  ·simp
theorem vh (N:Net):∀ m,jh N m = (edL N m).map qL
 | 0=>rfl
 | m + 1=>by rw [vg,vh N m,C3,edL,List.map_append]
end
section
open Go Go.RowKit
theorem DCalls.fn0 {P:Program} {f g:FuncId} {a:Arg} {Post:Res → Prop} (h:DCalls P f [a,.fn g []] Post):DCalls P f [a,.c (.p (.func (.func g) #[] #[]))] Post :=
 fun w vs h1 h2=>h w vs h1 fun i x hx=>by
  match i,hx with
  | 0,hx=>exact h2 0 x hx
  | 1,hx =>
   obtain rfl:Arg.fn g [] = x:=by simpa using hx
   obtain ⟨u,hu,hro⟩:=h2 1 _ rfl;obtain rfl:u = .func (.func g) #[] #[]:=fp hro;exact ⟨_,hu,⟨#[],rfl,rfl,fun i cs hi=>by simp at hi⟩⟩
end
section
open Go Go.RowKit
def jc8 (r:Res):Prop:=∃ N,r = [.agg (netZ N)] ∧ Tame N
def NlP (rs:Res):Prop:=∃ (N:Net) (ps:List Int),rs = [.agg (netZ N),.own false [.sl true 3 1 (ps.map iC)]] ∧ Tame N ∧ ps.length ≤ 64
end
section
section
variable (N:Net)
end
section
variable {N:Net}
theorem gy (X:List Int) (x u:Nat) (c:Int):gi (X.set x c) u = if u = x ∧ x < X.length then c else gi X u:=by
 by_cases h:x < X.length
 ·rw [Lx h]
  by_cases hu:u = x
  ·rw [if_pos hu,if_pos ⟨hu,h⟩]
  ·rw [if_neg hu,if_neg (fun hh=>hu hh.1)]
 ·rw [List.set_eq_of_length_le (by omega),if_neg (fun hh=>h hh.2)]
end
end
section
theorem Eg:∀ (A B:List Int),A.Nodup → (∀ x ∈ A,x ∈ B) → A.length ≤ B.length
 | [],_,_,_=>Nat.zero_le _
 | a :: A,B,hn,hs=>by
  have ha:=hs a List.mem_cons_self;have hn2:=List.nodup_cons.1 hn;have ih:=Eg A (B.erase a) hn2.2 fun x hx=>(List.mem_erase_of_ne (fun (e:x = a)=>hn2.1 (by rw [← e]; exact hx))).2 (hs x (List.mem_cons_of_mem _ hx));have h1:=List.length_erase_of_mem ha;have h2:=List.length_pos_of_mem ha;rw [List.length_cons];omega
def fq (ws:List Int) (L:List Int):Nat → List Int
 | 0=>L
 | j + 1=>if nk (fq ws L j) (gi ws j) = true then fq ws L j else fq ws L j ++ [gi ws j]
def rcR (N:Net):Nat → List Int
 | 0=>[0]
 | k + 1=>if k < (rcR N k).length then fq (i5 N (gi (rcR N k) k).toNat (gl N.ends (gi (rcR N k) k).toNat).length) (rcR N k) (gl N.ends (gi (rcR N k) k).toNat).length else rcR N k
theorem xn {ws L:List Int}:∀ j,∃ M,fq ws L j = L ++ M
 | 0=>⟨[],by rw [fq,List.append_nil]⟩
 | j + 1=>by
  obtain ⟨M,h⟩:=xn (ws:=ws) (L:=L) j;rw [fq];split
  ·exact ⟨M,h⟩
  ·exact ⟨M ++ [gi ws j],by rw [h,List.append_assoc]⟩
theorem Dh {ws L:List Int} (h:L.Nodup):∀ j,(fq ws L j).Nodup
 | 0=>h
 | j + 1=>by
  have ih:=Dh (ws:=ws) h j;rw [fq];split
  ·exact ih
  ·rename_i h1
   rw [List.nodup_append];refine ⟨ih,by simp,fun a ha b hb=>?_⟩;rw [List.mem_singleton] at hb;rw [hb];exact fun e=>h1 (gn.2 (e ▸ ha))
theorem Di {ws L:List Int} {x:Int}:∀ {j:Nat},x ∈ fq ws L j → x ∈ L ∨ ∃ i,i < j ∧ x = gi ws i
 | 0,h=>.inl h
 | j + 1,h=>by
  rw [fq] at h;split at h
  ·rcases Di h with h1 | ⟨i,h1,h2⟩
   ·exact .inl h1
   ·exact .inr ⟨i,by omega,h2⟩
  ·rcases List.mem_append.1 h with h1 | h1
   ·rcases Di h1 with h1 | ⟨i,h1,h2⟩
    ·exact .inl h1
    ·exact .inr ⟨i,by omega,h2⟩
   ·exact .inr ⟨j,by omega,List.mem_singleton.1 h1⟩
theorem Kc {ws L:List Int}:∀ {j i:Nat},i < j → gi ws i ∈ fq ws L j
 | j + 1,i,h=>by
  rw [fq]
  by_cases hij:i = j
  ·subst hij;split
   ·rename_i h1; exact gn.1 h1
   ·exact List.mem_append.2 (.inr (List.mem_singleton.2 rfl))
  ·have ih:=Kc (ws:=ws) (L:=L) (show i < j by omega);split
   ·exact ih
   ·exact List.mem_append.2 (.inl ih)
theorem Cd {N:Net} {v i:Nat} (h:i < (gl N.ends v).length):gi (i5 N v (gl N.ends v).length) i = (gp (gl N.ends v) i).1:=by
 unfold i5;rw [List.take_length];simp [gi,gp,h]
section
variable {N:Net}
structure RcI (N:Net) (L:List Int) (k:Nat):Prop where
 nod:L.Nodup
 rng:∀ x ∈ L,0 ≤ x ∧ x < N.ends.length ∧ 0 ≤ gi (fo N 0) x.toNat
 zero:(0:Int) ∈ L
 closed:∀ i,i < k → i < L.length → ∀ j,j < (gl N.ends (gi L i).toNat).length → ((nd N (gi L i).toNat j:Nat):Int) ∈ L
theorem la (hs:Sym N.ends) (hn:0 < N.ends.length):∀ k,RcI N (rcR N k) k
 | 0=>by
  refine ⟨by simp [rcR],fun x hx=>?_,by simp [rcR],fun i hi=>absurd hi (Nat.not_lt_zero _)⟩;have hx:x = 0:=by simpa [rcR] using hx
  subst hx;exact ⟨by omega,by omega,by rw [Int.toNat_zero,(j9 hs hn).root]; omega⟩
 | k + 1=>by
  have ih:=la hs hn k
  by_cases hk:k < (rcR N k).length
  ·have he:rcR N (k + 1) = fq (i5 N (gi (rcR N k) k).toNat (gl N.ends (gi (rcR N k) k).toNat).length) (rcR N k) (gl N.ends (gi (rcR N k) k).toNat).length:=by rw [rcR,if_pos hk]
   obtain ⟨M,hM⟩:=xn (ws:=i5 N (gi (rcR N k) k).toNat (gl N.ends (gi (rcR N k) k).toNat).length) (L:=rcR N k) (gl N.ends (gi (rcR N k) k).toNat).length;rw [← he] at hM;have hmem:gi (rcR N k) k ∈ rcR N k:=by rw [bt hk]; exact List.getElem_mem hk
   obtain ⟨r1,r2,r3⟩:=ih.rng _ hmem
   have hgi:∀ i,i < (rcR N k).length → gi (rcR N (k + 1)) i = gi (rcR N k) i:=fun i hi=>by
    rw [hM,bt (by rw [List.length_append]; omega),bt hi,List.getElem_append_left hi]
   have hnb:∀ j,j < (gl N.ends (gi (rcR N k) k).toNat).length → gi (i5 N (gi (rcR N k) k).toNat (gl N.ends (gi (rcR N k) k).toNat).length) j = ((nd N (gi (rcR N k) k).toNat j:Nat):Int) ∧ nd N (gi (rcR N k) k).toNat j < N.ends.length:=fun j hj=>by
    obtain ⟨q1,-,-,-,q5⟩:=d9 hs (show (gi (rcR N k) k).toNat < N.ends.length by omega) hj;exact ⟨by rw [Cd hj,q5],q1⟩
   refine ⟨by rw [he]; exact Dh ih.nod _,fun x hx=>?_,by rw [hM]; exact List.mem_append.2 (.inl ih.zero),fun i hi hil j hj=>?_⟩
   ·rw [he] at hx
    rcases Di hx with h1 | ⟨j,hj,hx2⟩
    ·exact ih.rng x h1
    ·obtain ⟨g1,g2⟩:=hnb j hj;rw [hx2,g1];have:=(j9 hs hn).step _ (show (gi (rcR N k) k).toNat < N.ends.length by omega) r3 j hj;exact ⟨by omega,by omega,by rw [Int.toNat_natCast]; exact this.1⟩
   ·by_cases hik:i = k
    ·subst hik;rw [hgi _ hk] at hj ⊢;rw [← (hnb j hj).1,he];exact Kc hj
    ·have hi2:i < (rcR N k).length:=by omega
     rw [hgi _ hi2] at hj ⊢;rw [hM];exact List.mem_append.2 (.inl (ih.closed i (by omega) hi2 j hj))
  ·have he:rcR N (k + 1) = rcR N k:=by rw [rcR,if_neg hk]
   rw [he];exact ⟨ih.nod,ih.rng,ih.zero,fun i _ hil=>ih.closed i (by omega) hil⟩
theorem Ap (hs:Sym N.ends) (hn:0 < N.ends.length) (k:Nat):(rcR N k).length ≤ N.ends.length:=ri _ _ (la hs hn k).nod fun x hx=>⟨((la hs hn k).rng x hx).1,((la hs hn k).rng x hx).2.1⟩
theorem Ij {k:Nat} (h:(rcR N k).length ≤ k):∀ m,rcR N (k + m) = rcR N k
 | 0=>rfl
 | m + 1=>by
  have ih:=Ij h m;rw [show k + (m + 1) = k + m + 1 by omega,rcR,ih,if_neg (by omega)]
theorem Ni (hs:Sym N.ends) (hn:0 < N.ends.length) {k:Nat} (h:(rcR N k).length ≤ k) (hk:k ≤ N.ends.length):rcR N k = rcR N N.ends.length:=by
 have:=Ij h (N.ends.length - k);rw [show k + (N.ends.length - k) = N.ends.length by omega] at this;exact this.symm
theorem Ik (hs:Sym N.ends) (hn:0 < N.ends.length):(rcR N N.ends.length).length = N.ends.length ↔ qh N 0 = true:=by
 have hI:=la hs hn N.ends.length;rw [ou hs hn];constructor
 ·intro h w hw;have hp:=pe _ _ hI.nod (fun x hx=>⟨(hI.rng x hx).1,(hI.rng x hx).2.1⟩) h;have hm:(w:Int) ∈ rcR N N.ends.length:=hp.mem_iff.2 (ja.2 ⟨by omega,by omega⟩);have:=(hI.rng _ hm).2.2;rwa [Int.toNat_natCast] at this
 ·intro h
  have key:∀ (d w:Nat),w < N.ends.length → gi (fo N 0) w = d → (w:Int) ∈ rcR N N.ends.length:=by
   intro d
   induction d with
   | zero =>
    intro w hw hd;rw [(j9 hs hn).zero w hw (by simpa using hd)];exact hI.zero
   | succ d ih =>
    intro w hw hd;obtain ⟨j,hj,hb⟩:=(j9 hs hn).back w hw (by omega);obtain ⟨q1,q2,q3,q4,q5⟩:=d9 hs hw hj;have hm:=ih (nd N w j) q1 (by omega);obtain ⟨i,hi,he⟩:=List.getElem_of_mem hm;rw [← bt hi] at he;have hl:=Ap hs hn N.ends.length;have:=hI.closed i (by omega) hi (bk N w j) (by rw [he,Int.toNat_natCast]; exact q2);rw [he,Int.toNat_natCast,q3] at this;exact this
  have hsub:∀ x ∈ cp N.ends.length,x ∈ rcR N N.ends.length:=fun x hx=>by
   obtain ⟨h1,h2⟩:=ja.1 hx;obtain ⟨w,rfl⟩:=Int.eq_ofNat_of_zero_le h1;obtain ⟨d,hd⟩:=Int.eq_ofNat_of_zero_le (h w (by omega));exact key d w (by omega) hd
  have h1:=Ap hs hn N.ends.length;have h2:=Eg _ _ (t7 N.ends.length) hsub;rw [dl] at h2;omega
end
end
end Go.Proofs.YtfknckinfcicbaaGreat
