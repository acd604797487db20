/- Maps of the call's own, at keys of any kind, with elements as they are: what stands at each key. No program's function in sight. -/
import Derived.Test.YtdiiggpohcjppaaGreatChecked
import Derived.Test.YtdiiggpohcjppaaGreatCJn6
import Derived.Maps.OwnSet
import Derived.DeepKeys4
set_option linter.unusedSimpArgs false
set_option linter.unusedVariables false
namespace Go.Proofs.YtdiiggpohcjppaaGreat
open Go.RowKit Go.Maps
def Ht (v : Value) : Option (DataW Value × List MemPlace) := some (.held v, [])
def OwnM (w : World) (k : TypeId) (b s : Nat) (f : Value → Option Value) : Prop :=
 ∃ D : DataW Value, w.ownsMap Tryz.prog k Ht b s D ∧ size D = s ∧ ∀ key kl, keyOf Tryz.prog k key = some kl → has D kl = (f key).isSome ∧ ∀ z, D.atKey kl z = match f key with | some v => .held v | none => z
section
variable {w w' : World} {k t e : TypeId} {b s : Nat} {f : Value → Option Value}
theorem OwnM.made (w : World) (k : TypeId) : OwnM (w.alloc (.map #[] 0)) k w.heap.size 0 (fun _ => none) :=
 ⟨.map [], World.ownsMap_made _ _ _ _, rfl, fun _ _ _ => ⟨rfl, fun _ => rfl⟩⟩
theorem OwnM.lt (h : OwnM w k b s f) : b < w.heap.size := by obtain ⟨D, h, -⟩ := h; exact h.lt
theorem OwnM.kept {row : Option Nat} (h : OwnM w k b s f) (hg : w.grownBy w' row) (hne : some b ≠ row) : OwnM w' k b s f := by
 obtain ⟨D, h1, h2⟩ := h; exact ⟨D, h1.kept hg hne, h2⟩
theorem OwnM.below (h : OwnM w k b s f) (hb : Below w.heap.size w w') : OwnM w' k b s f := by
 have hl := h.lt
 obtain ⟨D, ⟨es, clock, h1, h3⟩, h2⟩ := h
 exact ⟨D, ⟨es, clock, (hb.block b hl).trans h1, h3⟩, h2⟩
theorem OwnM.far (h : OwnM w k b s f) {a : Addr} (ha : b ≠ a.block) (u : Value) : OwnM (w.setCell a u) k b s f := by
 obtain ⟨D, h1, h2⟩ := h; exact ⟨D, h1.setCell ha u, h2⟩
theorem OwnM.congr {g : Value → Option Value} (h : OwnM w k b s f) (hg : ∀ key kl, keyOf Tryz.prog k key = some kl → g key = f key) : OwnM w k b s g := by
 obtain ⟨D, h1, h2, h3⟩ := h
 exact ⟨D, h1, h2, fun key kl hk => by rw [hg key kl hk]; exact h3 key kl hk⟩
theorem OwnM.look (h : OwnM w k b s f) (K : Keyed Tryz.prog k) (ht : Tryz.prog.underlying t = some (.map k e)) {z : Value} (hz : (zeroValue e).run Tryz.prog w = .ok z w) {key : Value} {kl : Lit} (hkey : keyOf Tryz.prog k key = some kl) :
 (Instr.lookup t (.map (some b)) key false).run Tryz.prog w = .ok ((f key).getD z) w := by
 obtain ⟨D, h1, -, h3⟩ := h
 obtain ⟨v, ps, hr, hv⟩ := h1.lookup K ht hz (rfl : Ht z = some (.held z, [])) hkey
 obtain ⟨-, h5⟩ := h3 key kl hkey
 rw [h5] at hv
 rw [hr]
 cases hf : f key with
 | none => rw [hf] at hv; simp [Ht] at hv; rw [hv.1]; rfl
 | some x => rw [hf] at hv; simp [Ht] at hv; rw [hv.1]; rfl
theorem OwnM.len (h : OwnM w k b s f) (ht : Tryz.prog.underlying t = some (.map k e)) (ty : TypeId) : (Builtin.len_ #[t] ty #[.map (some b)]).run Tryz.prog w = .ok (.int .i64 s) w := by
 obtain ⟨D, h1, h2, -⟩ := h
 rw [h1.len ht ty, h2]
theorem OwnM.put (h : OwnM w k b s f) (K : Keyed Tryz.prog k) (ht : Tryz.prog.underlying t = some (.map k e)) (hs : s < maxLen) {key : Value} {kl : Lit} (hkey : keyOf Tryz.prog k key = some kl) (v : Value) :
 ∃ w', (Instr.mapUpdate t (.map (some b)) key v).run Tryz.prog w = .ok () w' ∧ w.grownBy w' (some b) ∧
  ∀ g : Value → Option Value, g key = some v → (∀ key' kl', keyOf Tryz.prog k key' = some kl' → key' ≠ key → g key' = f key') → OwnM w' k b (if (f key).isSome = true then s else s + 1) g := by
 obtain ⟨D, h1, h2, h3⟩ := h
 obtain ⟨w', hr, h4, h5⟩ := h1.update K ht hs hkey (rfl : Ht v = some (.held v, []))
 refine ⟨w', hr, h5, fun g hg hg' => ⟨D.put kl (.held v), ?_, ?_, fun key' kl' hk' => ?_⟩⟩
 ·have hsz := size_put (h1.tidy K) (DataW.held v : DataW Value) (k := kl)
  obtain ⟨es, clock, e1, e2, e3, e4⟩ := h4
  refine ⟨es, clock, e1, e2, ?_, e4⟩
  have e5 : size (D.put kl (.held v)) = es.size := by rw [e4]; simp [Maps.size, length_sorted]
  rw [e5, (h3 key kl hkey).1, h2] at hsz
  rw [hsz]
  exact Nat.le_refl _
 ·rw [size_put (h1.tidy K), (h3 key kl hkey).1, h2]
 ·by_cases e : key' = key
  ·subst e
   have hkk : kl' = kl := by rw [hkey] at hk'; exact (Option.some.inj hk').symm
   subst hkk
   rw [hg]
   exact ⟨has_put_same h1.isMap (K.key hkey) _, fun z => atKey_put_same h1.isMap (K.key hkey) _ _⟩
  ·have hne : kl' ≠ kl := fun e2 => e (K.inj (by rw [← e2]; exact hk') hkey)
   rw [hg' key' kl' hk' e, has_put_other hne]
   refine ⟨(h3 key' kl' hk').1, fun z => ?_⟩
   rw [atKey_put_other hne]
   exact (h3 key' kl' hk').2 z
end
theorem Yx {x : Int} (h1 : -9223372036854775808 ≤ x) (h2 : x ≤ 9223372036854775807) : (Lit.int .i64 x).wf = true := WalkArith.wf_i64 (by omega)
end Go.Proofs.YtdiiggpohcjppaaGreat
