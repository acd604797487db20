/- laws.qOrder over data -/
import Derived.Test.YtdiiggpohcjppaaGreatCJn29
import Derived.Test.YtdiiggpohcjppaaGreatCNob
import Derived.Test.YtdiiggpohcjppaaGreatCPwp
import Derived.Test.YtdiiggpohcjppaaGreatCJn31
set_option linter.unusedSimpArgs false
set_option linter.unusedVariables false
namespace Go.Proofs.YtdiiggpohcjppaaGreat
open Go Go.RowKit
def i9 (k0 : Nat) : Nat → List Int × Nat
 | 0 => ([], k0)
 | v + 1 => ((i9 k0 v).1.take ((i9 k0 v).2 % (v + 1)) ++ [(v : Int)] ++ (i9 k0 v).1.drop ((i9 k0 v).2 % (v + 1)), (31 * (i9 k0 v).2 + 7 * v + 5) % 1000003)
theorem we (k0 : Nat) : ∀ v, (i9 k0 v).1.Perm (et v)
 | 0 => by simp [i9, et]
 | v + 1 => by
  rw [i9, zm]
  have h := we k0 v
  obtain ⟨l, hl⟩ : ∃ l, l = (i9 k0 v).1 := ⟨_, rfl⟩
  obtain ⟨m, hm⟩ : ∃ m, m = (i9 k0 v).2 % (v + 1) := ⟨_, rfl⟩
  rw [← hl, ← hm]
  rw [← hl] at h
  have h1 : (l.take m ++ [(v : Int)] ++ l.drop m).Perm (l ++ [(v : Int)]) := by
   have h2 : (l.take m ++ [(v : Int)] ++ l.drop m).Perm (l.take m ++ (l.drop m ++ [(v : Int)])) := by
    rw [List.append_assoc]
    exact List.Perm.append_left _ List.perm_append_comm
   rw [← List.append_assoc, List.take_append_drop] at h2
   exact h2
  exact h1.trans (List.Perm.append_right _ h)
theorem Tx {k0 : Nat} (h : k0 < 1000003) : ∀ v, (i9 k0 v).2 < 1000003
 | 0 => h
 | v + 1 => by rw [i9]; exact Nat.mod_lt _ (by omega)
theorem Jn {xs : List Int} {n : Nat} (h : xs.Perm (et n)) : dx xs n = true := by
 have hl : xs.length = n := by rw [h.length_eq, fu]
 have hn : xs.Nodup := h.symm.nodup (zn n)
 have key : jl xs n xs.length := fun i hi => by
  have h1 := zo.1 (h.subset (List.getElem_mem hi))
  refine ⟨cf.2 (by rw [b6 hi]; omega), ?_⟩
  rw [kn]
  intro j hj he
  rw [List.length_take] at hj
  have hji : j < i := by omega
  have h2 : gi xs j = gi xs i := by
   rw [← he]; unfold gi; simp [List.getElem?_take, hji]
  rw [b6 (by omega), b6 hi] at h2
  exact List.pairwise_iff_getElem.1 hn j i (by omega) hi hji h2
 simp only [dx, Bool.and_eq_true, decide_eq_true_eq]
 exact ⟨key, hl⟩
theorem Sg {l : List Int} {m : Nat} : gm l 0 m = l.take m := by simp [gm]
theorem Sh {l : List Int} {m n : Nat} (h : n = l.length) : gm l m n = l.drop m := by
 subst h
 unfold gm
 exact List.take_of_length_le (by simp)
theorem uz (l : List Int) (i j : Nat) : gm (l.map iC) i j = (gm l i j).map iC := by
 unfold gm
 rw [List.map_take, List.map_drop]
def zBDqo1 := PLift.up (And.intro bb (And.intro cl (And.intro @if_pos.{1} (And.intro @b7 (And.intro @a7 (And.intro @a6 @trivial))))))
theorem Xn : type_of% zBDqo1.down := zBDqo1.down
set_option maxRecDepth 8000 in
set_option maxHeartbeats 0 in
theorem Qp (n : Nat) (bs : List Int) (hby : de bs) (hn : n ≤ 1000) : DCalls Tryz.prog 31 [.c (.p (.int .i64 n)), .c (f5 bs)] (fun r => r = [.own false [.sl true 3 1 ((i9 (E2 bs bs.length) n).1.map iC)]]) := by
 obtain ⟨k0, hk0⟩ : ∃ k0, k0 = E2 bs bs.length := ⟨_, rfl⟩
 have hk0l : k0 < 1000003 := by rw [hk0]; exact L4 _ _
 refine ao Tryz.func31 rfl (by rw [Tryz.ntmps31]; simp) fun w0 => ?_
 rw [Tryz.ntmps31]
 have dfx := Xn
 simp only [ce, be, Arg.av, f5]
 refine ab (dwR fun K hK => ?_)
 repeat refine evF ?_
 refine aa (hK _ (dwK [0, 1] ?_))
 clear hK K
 refine ab (dwR fun K hK => ?_)
 repeat refine evF ?_
 refine aa (hK _ (dwK [0, 1, 5] ?_))
 clear hK K
 have dfx := And.intro dfx ((Eq.symm hk0))
 refine ab (dwR fun K hK => ?_)
 repeat refine evF ?_
 have dfx := And.intro dfx ((Eq.symm hk0))
 refine clF rfl ⟨rfl, _, rfl⟩ (by omega) (by first | exact Zr) (Ju bs hby) ?_
 rintro _ rfl
 repeat refine evF ?_
 have dfk := (Eq.symm hk0)
 refine aa (hK _ (a8 [0, 5, 6] ?_))
 clear hK K
 refine ab ?_
 refine ab (dwR fun K hK => ?_)
 repeat refine evF ?_
 refine aa (hK _ (dwK [0, 5, 6, 7] ?_))
 clear hK K
 refine ae ?_
 refine jw 5 3 1 (by decide) (by simp only [ac, C.at, C.put, List.dropLast, List.isPrefixOf, simprocAttr]) [0, 5, 6, 7] (by simp only [ac, C.at, C.put, List.dropLast, List.isPrefixOf, simprocAttr]; exact rfl) ?_
 refine ax (X := Nat) (fun v => v ≤ n) (fun v => [(6, .c (.p (.int .i64 ((i9 k0 v).2 : Nat)))), (7, .c (.p (.int .i64 v)))]) (fun v => [((5, 0), ⟨none, [.sl true 3 1 ((i9 k0 v).1.map iC)]⟩)]) (fun v => n - v) 0 (Nat.zero_le _) (by first | rfl | (simp only [ac, C.at, C.put, List.dropLast, List.isPrefixOf, simprocAttr, Int.natCast_zero, i9] <;> rfl)) ?_
 rintro v hv
 intro E hE
 simp only [ac, C.at, C.put, List.dropLast, List.isPrefixOf, simprocAttr] at hE
 subst hE
 have hkl := Tx hk0l v
 have hpl : (i9 k0 v).1.length = v := by rw [(we k0 v).length_eq, fu]
 have hs1 : (i9 k0 (v + 1)).1 = (i9 k0 v).1.take ((i9 k0 v).2 % (v + 1)) ++ [(v : Int)] ++ (i9 k0 v).1.drop ((i9 k0 v).2 % (v + 1)) := rfl
 have hs2 : (i9 k0 (v + 1)).2 = (31 * (i9 k0 v).2 + 7 * v + 5) % 1000003 := rfl
 obtain ⟨l, hl⟩ : ∃ l, l = (i9 k0 v).1 := ⟨_, rfl⟩
 obtain ⟨k, hk⟩ : ∃ k, k = (i9 k0 v).2 := ⟨_, rfl⟩
 rw [← hl] at hs1 hpl ⊢
 rw [← hk] at hs1 hs2 hkl ⊢
 obtain ⟨m, hm⟩ : ∃ m, m = k % (v + 1) := ⟨_, rfl⟩
 obtain ⟨k2, hk2⟩ : ∃ k2, k2 = (31 * k + 7 * v + 5) % 1000003 := ⟨_, rfl⟩
 have hml : m ≤ v := by rw [hm]; have := Nat.mod_lt k (show 0 < v + 1 by omega); omega
 rw [← hm] at hs1
 rw [← hk2] at hs2
 have ht1 : Int.tmod (k : Int) ((v : Int) + 1) = (m : Int) := by rw [hm]; rfl
 have ht2 : Int.tmod (31 * (k : Int) + 7 * (v : Int) + 5) 1000003 = (k2 : Int) := by rw [hk2]; rfl
 have hz1 : ((v : Int) + 1 = 0) ↔ False := ⟨fun h => by omega, fun h => h.elim⟩
 have hz2 : ((1000003 : Int) = 0) ↔ False := by decide
 refine ab ?_
 refine ab (dwR fun K hK => ?_)
 repeat refine evF ?_
 refine aa (hK _ (dwK [0, 5, 6, 7, 14] ?_))
 clear hK K
 refine dwI (fun hb => ?_) (fun hb => ?_)
 ·have hvn : v < n := by simpa using hb
  refine ai ?_
  show DW _ _ _ _ _
  refine ab (ae ?_)
  refine Bo 5 [0, 5, 6, 7] rfl rfl (by simp only [ac, C.at, C.put, List.dropLast, List.isPrefixOf, simprocAttr, Gx, Dd, t8, t7, ml]; exact rfl) ?_
  have dfx := And.intro dfx (And.intro @ht1 @hz1)
  refine ab (dwR fun K hK => ?_)
  repeat refine evF ?_
  have dfk := And.intro @ht1 @hz1
  refine aa (hK _ (a8 [0, 5, 6, 7, 8] ?_))
  clear hK K
  have dfx := And.intro dfx (And.intro @ht2 @hz2)
  refine ab (dwR fun K hK => ?_)
  repeat refine evF ?_
  have dfk := And.intro @ht2 @hz2
  refine aa (hK _ (a8 [0, 5, 6, 7, 8] ?_))
  clear hK K
  have htl : (l.take m).length = m := by rw [List.length_take]; omega
  have dfx := And.intro dfx (And.intro @Int.toNat_natCast (And.intro @uz (And.intro @Sg @hpl)))
  refine ab (dwR fun K hK => ?_)
  repeat refine evF ?_
  have dfk := And.intro @uz @Sg
  refine aa (hK _ (a8 [0, 5, 6, 7, 8, 9] ?_))
  clear hK K
  refine ab (dwR fun K hK => ?_)
  repeat refine evF ?_
  have dfk := @fo
  refine aa (hK _ (a8 [0, 5, 6, 7, 8, 9] ?_))
  clear hK K
  have hcf : gm l m v = l.drop m := Sh hpl.symm
  have htl2 : (l.take m ++ [(v : Int)]).length = m + 1 := by simp; omega
  have hdl : (l.drop m).length = v - m := by rw [List.length_drop, hpl]
  have dfx := And.intro dfx (And.intro @Int.toNat_natCast (And.intro @uz (And.intro @hpl @hcf)))
  refine dwR fun K hK => ?_
  repeat refine evF ?_
  have dfk := And.intro @uz (And.intro @hcf (And.intro @Kx (Eq.symm hs1)))
  refine aa (hK _ (a8 [0, 5, 6, 7] ?_))
  clear hK K
  refine dwR fun K hK => ?_
  repeat refine evF ?_
  have dfk := And.intro @cd @hs2
  refine aa (hK _ ?_)
  clear hK K
  show ∃ x, _ ∧ _ ∧ Weak _ _
  refine ⟨v + 1, ?_, ?_, ay [0, 5, 6, 7]⟩
  ·omega
  ·omega
 ·have hvn : v = n := by
   have : ¬ v < n := by simpa using hb
   omega
  refine ap ?_
  refine bc [5] (by simp only [ac, C.at, C.put, List.dropLast, List.isPrefixOf, simprocAttr]; exact rfl) ?_
  refine ab (dwR fun K hK => ?_)
  repeat refine evF ?_
  refine aa (hK _ (dwK [4] ?_))
  clear hK K
  exact ak (aq Tryz.results31 (.one (.own _ _ _ _ rfl rfl (own1 (cq _ _)))) (by decide) (by rw [hl, hvn, hk0]))
end Go.Proofs.YtdiiggpohcjppaaGreat
