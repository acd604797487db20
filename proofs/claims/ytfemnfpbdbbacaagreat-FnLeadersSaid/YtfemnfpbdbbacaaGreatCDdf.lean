/- slices.DeleteFunc at numbers, over data -/
import Derived.Test.YtfemnfpbdbbacaaGreatCDcl
import Derived.Test.YtfemnfpbdbbacaaGreatCJn25
import Derived.Test.YtfemnfpbdbbacaaGreatCJn40
set_option linter.unusedSimpArgs false
set_option linter.unusedVariables false
namespace Go.Proofs.YtfemnfpbdbbacaaGreat
open Go Go.RowKit
theorem Br {p : Int → Bool} : ∀ {l : List Int}, (∀ x ∈ l, p x = true) → l.filter p = l := fun h => List.filter_eq_self.2 h
structure DelI (xs : List Int) (b : Int → Bool) (cur : List Int) (i j : Nat) : Prop where
 len : cur.length = xs.length
 lt : i < j
 le : j ≤ xs.length
 kept : cur.take i = (xs.take j).filter fun x => !b x
 rest : ∀ q, j ≤ q → q < xs.length → gi cur q = gi xs q
theorem DelI.start {xs : List Int} {b : Int → Bool} {i : Nat} (hi : i < xs.length) (h : ∀ q, q < i → b (gi xs q) = false) (hb : b (gi xs i) = true) : DelI xs b xs i (i + 1) where
 len := rfl
 lt := Nat.lt_succ_self i
 le := hi
 kept := by
  rw [qc hi, List.filter_append, Br]
  ·simp [hb]
  ·intro x hx;obtain ⟨q, hq, rfl⟩ := List.mem_iff_getElem.1 hx;have hq2 : q < i := by rw [List.length_take] at hq; omega
   rw [List.getElem_take];have := h q hq2;rw [bn (by omega)] at this;simp [this]
 rest _ _ _ := rfl
theorem DelI.skip {xs cur : List Int} {b : Int → Bool} {i j : Nat} (h : DelI xs b cur i j) (hj : j < xs.length) (hb : b (gi xs j) = true) : DelI xs b cur i (j + 1) where
 len := h.len
 lt := by have := h.lt; omega
 le := hj
 kept := by rw [h.kept, qc hj, List.filter_append]; simp [hb]
 rest q h1 h2 := h.rest q (by omega) h2
theorem DelI.keep {xs cur : List Int} {b : Int → Bool} {i j : Nat} (h : DelI xs b cur i j) (hj : j < xs.length) (hb : b (gi xs j) = false) : DelI xs b (cur.set i (gi xs j)) (i + 1) (j + 1) where
 len := by rw [List.length_set]; exact h.len
 lt := by have := h.lt; omega
 le := hj
 kept := by
  have h1 := h.lt;have h2 := h.len;have h3 : i < (cur.set i (gi xs j)).length := by rw [List.length_set]; omega
  rw [qc h3, qc hj, List.filter_append, ← h.kept]
  have h4 : (cur.set i (gi xs j)).take i = cur.take i := by
   rw [List.take_set_of_le (Nat.le_refl i)]
  have h5 : gi (cur.set i (gi xs j)) i = gi xs j := by rw [bn h3]; simp
  rw [h4, h5];simp [hb]
 rest q h1 h2 := by
  have h3 := h.lt;have h4 := h.rest q (by omega) h2;have h5 := h.len;rw [← h4];have h6 : (cur.set i (gi xs j))[q]? = cur[q]? := List.getElem?_set_ne (by omega);simp only [gi, List.getD_eq_getElem?_getD] at h6 ⊢;rw [h6]
def zBDdf1 := PLift.up (And.intro a7 (And.intro b4 (And.intro @if_pos.{1} (And.intro @bt (And.intro @bi (And.intro @Int.toNat_natCast @trivial))))))
theorem Zf : type_of% zBDdf1.down := zBDdf1.down
set_option maxRecDepth 8000 in
set_option maxHeartbeats 0 in
theorem Gc (xs : List Int) (g : FuncId) (css : List (List C)) (b : Int → Bool) (hl : xs.length ≤ 1000000) (hm : ak Tryz.prog g = true) (hg : ∀ j, j < xs.length → DCalls Tryz.prog g ([.c (.p (.int .i64 (gi xs j)))] ++ css.map .rp) (fun r => r = [.c (.p (.bool (b (gi xs j))))])) : tb Tryz.prog 26 false [.sl true 3 1 (xs.map iC)] [.fn g css] (fun r => r = [.own false [.sl true 3 1 ((xs.filter fun x => !b x).map iC)]]) := by
 refine D8 Tryz.func26 rfl (by rw [Tryz.ntmps26]; simp) fun w0 => ?_;rw [Tryz.ntmps26];have dX := Zf;simp only [ya, bf, Arg.av, List.length_cons, List.length_nil, Nat.reduceAdd];refine ab (dR fun K hK => ?_);(repeat refine eV ?_);refine aa (hK _ (wK [0, 1] ?_));clear hK K;refine ab (dR fun K hK => ?_)
 repeat (apply b0; (focus exact rfl); (focus (simp (disch := first | omega | (intros; contradiction)) only [ac, bd, pZ, simprocAttr, a7, b4, if_pos, bt, bi, Int.toNat_natCast , xw]; exact rfl)))
 refine eh rfl ⟨rfl, _, rfl⟩ (by omega) (by first | exact xw) (by simp (disch := first | omega | (intros; contradiction)) only [ac, bd, pZ, simprocAttr, a7, b4, if_pos, bt, bi, Int.toNat_natCast , xw] <;> exact rfl) (yl true 3 xs g css (fun j => b (gi xs j)) hl hm hg) ?_;rintro _ rfl
 repeat (apply b0; (focus exact rfl); (focus (simp (disch := first | omega | (intros; contradiction)) only [ac, bd, pZ, simprocAttr, a7, b4, if_pos, bt, bi, Int.toNat_natCast , xw]; exact rfl)))
 refine aa (hK _ (wK [0, 1, 5] ?_));clear hK K
 by_cases hall : ∀ j, j < xs.length → b (gi xs j) = false
 ·have h1 : Bp xs.length (fun j => b (gi xs j)) = -1 := Ea hall
  have h2 : xs.filter (fun x => !b x) = xs := Br fun x hx => by
   obtain ⟨q, hq, rfl⟩ := List.mem_iff_getElem.1 hx;have := hall q hq;rw [bn hq] at this;simp [this]
  rw [h1];refine ab ?_;refine ab (dR fun K hK => ?_);(repeat refine eV ?_);refine aa (hK _ (wK [0, 1, 5, 12] ?_));clear hK K;refine dI ?_ ?_<;>intro hb
  ·refine ab (dR fun K hK => ?_);(repeat refine eV ?_);refine aa (hK _ (wK [4] ?_));clear hK K;exact aj (am Tryz.results26 (.one (.own _ _ _ _ rfl rfl (own1 (cm _ _)))) (by decide) (by rw [h2]))
  ·cases hb
 ·obtain ⟨i0, hi0, hb0, hf0⟩ : ∃ i, i < xs.length ∧ b (gi xs i) = true ∧ ∀ q, q < i → b (gi xs q) = false := by
   have hex : ∃ i, i < xs.length ∧ b (gi xs i) = true := Classical.byContradiction fun h => hall fun j hj => by
    cases hbj : b (gi xs j) with
    | false => rfl
    | true => exact absurd ⟨j, hj, hbj⟩ h
   have key : ∀ n i, i = n → i < xs.length → b (gi xs i) = true → ∃ i, i < xs.length ∧ b (gi xs i) = true ∧ ∀ q, q < i → b (gi xs q) = false := by
    intro n
    induction n using Nat.strongRecOn with
    | ind n ih =>
     intro i hin hi hbi
     by_cases h : ∀ q, q < i → b (gi xs q) = false
     ·exact ⟨i, hi, hbi, h⟩
     ·obtain ⟨q, hq⟩ := Classical.not_forall.1 h;obtain ⟨hq1, hq2⟩ := Classical.not_imp.1 hq;exact ih q (by omega) q rfl (by omega) (by simpa using hq2)
   obtain ⟨i, hi, hbi⟩ := hex;exact key i i rfl hi hbi
  have h1 : Bp xs.length (fun j => b (gi xs j)) = i0 := D9 hi0 hb0 hf0;have hne : ((i0 : Int) == -1) = false := by simp
  rw [h1];refine ab ?_;have dX := And.intro dX (@hne);refine ab (dR fun K hK => ?_);(repeat refine eV ?_);have dK := @hne;refine aa (hK _ (az [0, 1, 5, 12] ?_));clear hK K;refine dI ?_ ?_<;>intro hb
  ·cases hb
  ·refine ah ?_;show DW _ _ _ _ _;refine ab ?_;refine ab (dR fun K hK => ?_);(repeat refine eV ?_);have dK := @bp;refine aa (hK _ (az [0, 1, 5, 6] ?_));clear hK K;refine ae ?_;refine au (X := List Int × Nat × Nat) (fun x => DelI xs b x.1 x.2.1 x.2.2) (fun x => [(5, .c (.p (.int .i64 x.2.1))), (6, .c (.p (.int .i64 x.2.2)))]) (fun x => [((0, 0), ⟨none, [.sl true 3 1 (x.1.map iC)]⟩)]) (fun x => xs.length - x.2.2) (xs, i0, i0 + 1) (DelI.start hi0 hf0 hb0) (by first | rfl | (simp only [ac, pZ, simprocAttr, Int.natCast_zero, bp] <;> rfl)) ?_;rintro ⟨cur, i, j⟩ hI;intro E hE;simp only [ac, pZ, simprocAttr] at hE;subst hE;dsimp only at hI ⊢;have hcl := hI.len;have hij := hI.lt;have hjl := hI.le;refine ab ?_;have dX := And.intro dX (@hcl);refine ab (dR fun K hK => ?_);(repeat refine eV ?_);have dK := @hcl;refine aa (hK _ (az [0, 1, 5, 6, 19] ?_));clear hK K;refine dI ?_ ?_<;>intro hb
   ·have hj1 : j < xs.length := by simpa using hb
    have hgj : gi cur j = gi xs j := hI.rest j (Nat.le_refl j) hj1;refine ah ?_;show DW _ _ _ _ _;refine ab (ae ?_);have dX := And.intro dX (@hgj);refine ab (dR fun K hK => ?_);(repeat refine eV ?_);have dK := @hgj;refine aa (hK _ (az [0, 1, 5, 6, 7] ?_));clear hK K;refine ab (dR fun K hK => ?_);(repeat refine eV ?_);refine yi rfl ⟨rfl, _, rfl⟩ (by omega) (by simp (disch := first | omega | (intros; contradiction)) only [ac, bd, pZ, simprocAttr, a7, b4, if_pos, bt, bi, Int.toNat_natCast] <;> exact rfl) (by first | assumption) (by simp (disch := first | omega | (intros; contradiction)) only [ac, bd, pZ, simprocAttr, a7, b4, if_pos, bt, bi, Int.toNat_natCast] <;> exact rfl) (hg j hj1) ?_;rintro _ rfl;(repeat refine eV ?_);refine aa (hK _ (wK [0, 1, 5, 6, 7, 29] ?_));clear hK K;refine dI ?_ ?_<;>intro hb
    ·have hb2 : b (gi xs j) = false := by simpa using hb
     have dX := And.intro dX (@se);refine ab (dR fun K hK => ?_);(repeat refine eV ?_);have dK := @se;refine aa (hK _ (az [0, 1, 5, 6] ?_));clear hK K;refine dR fun K hK => ?_;(repeat refine eV ?_);have dK := @bp;refine aa (hK _ (az [0, 1, 5, 6] ?_));clear hK K;refine dR fun K hK => ?_;(repeat refine eV ?_);have dK := @bp;refine aa (hK _ ?_);clear hK K;show ∃ x, _ ∧ _ ∧ Weak _ _;refine ⟨(cur.set i (gi xs j), i + 1, j + 1), ?_, ?_, a6 [0, 1, 5, 6]⟩
     ·exact hI.keep hj1 hb2
     ·dsimp only; omega
    ·have hb2 : b (gi xs j) = true := by simpa using hb
     refine ah ?_;show DW _ _ _ _ _;refine dR fun K hK => ?_;(repeat refine eV ?_);have dK := @bp;refine aa (hK _ ?_);clear hK K;show ∃ x, _ ∧ _ ∧ Weak _ _;refine ⟨(cur, i, j + 1), ?_, ?_, a6 [0, 1, 5, 6]⟩
     ·exact hI.skip hj1 hb2
     ·dsimp only; omega
   ·have hj2 : j = xs.length := by
     have : ¬ j < xs.length := by simpa using hb
     omega
    have hkeep : cur.take i = xs.filter fun x => !b x := by rw [hI.kept, hj2, List.take_length]
    refine an ?_;refine ba [0, 5] (by simp only [ac, pZ, simprocAttr]; exact rfl) ?_;refine ab (Tj (r := 0) (j := 5) (ra := 36) (rb := 37) (rc := 38) (k := i) (t := 3) (xs := cur) rfl rfl rfl rfl rfl rfl rfl rfl rfl rfl rfl rfl rfl rfl rfl (by show 36 < 42; omega) (by show 37 < 42; omega) (by show 38 < 42; omega) (by decide) (by omega) (by omega) ?_);refine ba [0, 5] (by simp only [ac, pZ, simprocAttr]; exact rfl) ?_;have hcr : ip ((ow cur i).map iC) 0 i = (xs.filter fun x => !b x).map iC := by rw [Tr, Zm, P0 (by omega), hkeep]
    have hcrl : (ow cur i).length = cur.length := nh (by omega);have dX := And.intro dX (And.intro @hcr @hcrl);refine ab (dR fun K hK => ?_);(repeat refine eV ?_);have dK := @hcr;refine aa (hK _ (az [4] ?_));clear hK K;exact aj (am Tryz.results26 (.one (.own _ _ _ _ rfl rfl (own1 (by first | exact cm _ _ | (rw [show Int.toNat 0 = 0 from rfl, hcr]; exact cm _ _))))) (by decide) (by first | rw [show Int.toNat 0 = 0 from rfl, hcr] | rfl))
end Go.Proofs.YtfemnfpbdbbacaaGreat
