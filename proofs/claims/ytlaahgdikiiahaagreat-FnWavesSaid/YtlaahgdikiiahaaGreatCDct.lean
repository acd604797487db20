/- Contracts of earlier walks that answer with a tuple, one part of which is a slice of numbers of its own, as contracts over data. -/
import Derived.Test.YtlaahgdikiiahaaGreatCJn26
import Derived.Test.YtlaahgdikiiahaaGreatCSp4
set_option linter.unusedSimpArgs false
set_option linter.unusedVariables false
namespace Go.Proofs.YtlaahgdikiiahaaGreat
open Go Go.RowKit
theorem tup_ret {w' : World} {B k : Nat} {xs : List Int} {u : Value} {rs : List RV} {us : Array Value} (hn : 2 ≤ rs.length) (hus : us.size = rs.length) (hk : rs[k]? = some (.own false [.sl true 3 1 (xs.map iC)])) (huk : us[k]? = some u) (ho : OwnI w' B u xs)
 (hp : ∀ i, i ≠ k → i < rs.length → ∃ c, rs[i]? = some (.c (.p c)) ∧ us[i]? = some c) :
 ∃ val, MemOk w' (resCon rs) val (fun _ => False) ∧ (∀ b key p, OwnB (resCon rs) val b key p → B ≤ b) ∧ SV { emptyEnv with con := resCon rs } w' val (fun _ => False) 0 (resAV rs) (.tuple us) := by
 have hkl := (List.getElem?_eq_some_iff.1 hk).1
 have hrc : ∀ i, resCon rs (0, i + 1) = (rs[i]?).bind RV.con := fun i => by
  match rs, hn with
  | a :: b :: t, _ => rfl
 have hrv : resAV rs = .tup (rs.map RV.tv) := by
  match rs, hn with
  | a :: b :: t, _ => rfl
 have hcon : ∀ key cn, resCon rs key = some cn → key = (0, k + 1) ∧ cn = ⟨none, [.sl true 3 1 (xs.map iC)]⟩ := fun key cn hkc => by
  obtain ⟨k1, k2⟩ := key
  have h0 : k1 = 0 := by
   unfold resCon at hkc
   dsimp only at hkc
   split at hkc
   ·assumption
   ·cases hkc
  subst h0
  cases k2 with
  | zero =>
   match rs, hn with
   | a :: b :: t, _ => cases hkc
  | succ i =>
   rw [hrc] at hkc
   by_cases hik : i = k
   ·subst hik; rw [hk] at hkc; cases hkc; exact ⟨rfl, rfl⟩
   ·rcases Nat.lt_or_ge i rs.length with hil | hil
    ·obtain ⟨c, h1, -⟩ := hp i hik hil; rw [h1] at hkc; cases hkc
    ·rw [List.getElem?_eq_none hil] at hkc; cases hkc
 obtain ⟨va, hva⟩ : ∃ va : Path → Value, va = fun p => match p with | [(0, 0)] => u | [(0, 0), (j, 0)] => .int .i64 (gi xs j) | _ => undef := ⟨_, rfl⟩
 have hsl : SlOk w' va [(0, 0)] 3 1 (xs.map iC) := ho.slOk (by rw [hva]; rfl) fun j _ => by rw [hva]; rfl
 have hlk : ∀ p c, look [C.sl true 3 1 (xs.map iC)] p = some c → (p = [(0, 0)] ∧ c = .sl true 3 1 (xs.map iC)) ∨ ∃ j, p = [(0, 0), (j, 0)] ∧ c = .p (.int .i64 (gi xs j)) := fun p c hp => by
  match p with
  | [] => cases hp
  | (0, 0) :: z =>
   unfold look at hp
   simp only [List.getElem?_cons_zero, Option.bind_some] at hp
   match z with
   | [] => rw [at_nil] at hp; cases hp; exact .inl ⟨rfl, rfl⟩
   | (j, q) :: z =>
    rw [at_cons] at hp
    cases hr : rowC (xs.map iC) j q with
    | none => rw [hr] at hp; cases hp
    | some c0 =>
     rw [hr] at hp
     obtain ⟨rfl, hj, rfl⟩ := rowC_iC hr
     obtain ⟨rfl, rfl⟩ := C.flat_at rfl hp
     exact .inr ⟨j, rfl, rfl⟩
  | (0, q + 1) :: z => unfold look at hp; simp at hp
  | (j + 1, q) :: z => unfold look at hp; simp at hp
 have hown : ∀ b key p, OwnB (resCon rs) (fun _ => va) b key p → key = (0, k + 1) ∧ p = [(0, 0)] ∧ u.ownBlock = some b := fun b key p hob => by
  rcases hob with ⟨-, ⟨t', xs', h1⟩, -⟩ | ⟨cn, t', k', rows', n', cap', h1, h2, o, h3⟩
  ·obtain ⟨-, h2⟩ := hcon _ _ h1; cases h2
  ·obtain ⟨rfl, rfl⟩ := hcon _ _ h1
   rcases hlk p _ h2 with ⟨rfl, -⟩ | ⟨j, rfl, h4⟩
   ·exact ⟨rfl, rfl, by rw [hva] at h3; rw [show u = _ from h3]; rfl⟩
   ·cases h4
 refine ⟨fun _ => va, ⟨fun key cn p c hc hl => ?_, fun key t xs' hc => ?_, fun b key p key' p' k1 k2 => ?_, fun b hb => hb.elim⟩, fun b key p k1 => ?_, ?_⟩
 ·obtain ⟨rfl, rfl⟩ := hcon _ _ hc
  rcases hlk p c hl with ⟨rfl, rfl⟩ | ⟨j, rfl, rfl⟩
  ·exact hsl
  ·show va _ = _; rw [hva]; rfl
 ·obtain ⟨-, h2⟩ := hcon _ _ hc; cases h2
 ·obtain ⟨rfl, rfl, -⟩ := hown _ _ _ k1
  obtain ⟨rfl, rfl, -⟩ := hown _ _ _ k2
  exact ⟨rfl, rfl⟩
 ·obtain ⟨-, -, k2⟩ := hown _ _ _ k1
  exact (ho.blk b k2).1
 ·rw [hrv]
  refine ⟨us, rfl, by rw [hus, List.length_map], fun i t ht => ?_⟩
  rw [List.getElem?_map] at ht
  by_cases hik : i = k
  ·subst hik
   rw [hk] at ht
   cases ht
   refine ⟨u, huk, .inr ⟨⟨_, (hrc i).trans (by rw [hk]; rfl)⟩, rfl, by rw [hva]; rfl⟩⟩
  ·cases hri : rs[i]? with
   | none => rw [hri] at ht; cases ht
   | some r =>
    obtain ⟨c, h1, h2⟩ := hp i hik (List.getElem?_eq_some_iff.1 hri).1
    rw [h1] at ht
    cases ht
    exact ⟨c, h2, .inr (RO.p c)⟩
theorem dcalls_tup {P : Program} {f : FuncId} {ags : List Arg} {rs : List RV}
 (h : ∀ w (vs : Array Value), vs.size = ags.length → (∀ (i : Nat) (x : Arg), ags[i]? = some x → ∃ u, vs[i]? = some u ∧ ArgOk w x u) → Calls P f vs w fun e w' => ∃ (us : Array Value) (k : Nat) (xs : List Int) (u : Value), e = .returned (.tuple us) ∧ Below w.heap.size w w' ∧
   2 ≤ rs.length ∧ us.size = rs.length ∧ rs[k]? = some (.own false [.sl true 3 1 (xs.map iC)]) ∧ us[k]? = some u ∧ OwnI w' w.heap.size u xs ∧ ∀ i, i ≠ k → i < rs.length → ∃ c, rs[i]? = some (.c (.p c)) ∧ us[i]? = some c) : DCalls P f ags (fun r => r = rs) := fun w vs h1 h2 => by
 refine (h w vs h1 h2).mono ?_
 rintro e w' ⟨us, k, xs, u, rfl, hb, k1, k2, k3, k4, k5, k6⟩
 obtain ⟨val, g1, g2, g3⟩ := tup_ret k1 k2 k3 k4 k5 k6
 exact ⟨rs, _, val, _, rfl, rfl, ⟨hb, g1, g2, fun _ h => h.elim, g3⟩⟩
end Go.Proofs.YtlaahgdikiiahaaGreat
