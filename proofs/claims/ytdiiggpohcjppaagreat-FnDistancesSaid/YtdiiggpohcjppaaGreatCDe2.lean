/- Contents go from one place into another. No program in sight. -/
import Derived.Test.YtdiiggpohcjppaaGreatCJn0
set_option linter.unusedSimpArgs false
set_option linter.unusedVariables false
namespace Go.Proofs.YtdiiggpohcjppaaGreat
open Go Go.RowKit
theorem NodeOk.reval1 {w : World} {S : Nat → Prop} {va va' : Path → Value} {p p' : Path} {c : C} (h : NodeOk w S va p c) (h0 : va' p' = va p) (hv : ∀ s, va' (p' ++ [s]) = va (p ++ [s])) : NodeOk w S va' p' c := by
 cases c with
 | p v => exact h0.trans h
 | hole => trivial
 | sl own t k rows =>
  cases own with
  | false => show RO _ _ _ _; rw [h0]; exact h
  | true =>
   obtain ⟨g1, g2, g3⟩ := h
   refine ⟨g1, g2, ?_⟩
   rw [h0]
   rcases g3 with g3 | ⟨b, o, cap, cur, g4, g5, g6, g7, g8, g9⟩
   ·exact .inl g3
   ·exact .inr ⟨b, o, cap, cur, g4, g5, g6, g7, g8, fun j q c hc => by rw [hv]; exact g9 j q c hc⟩
def valMove (val : Val) (s : Nat) (p1 : Path) (r : Nat) (p2 : Path) : Val := fun key q => if key = (r, 0) ∧ p2 <+: q then val (s, 0) (p1 ++ q.drop p2.length) else val key q
section
variable {w0 : Base} {e : Env} {a : Act} {w : World} {val : Val} {S : Nat → Prop} {con : CKey → Option Con}
theorem MemOk.move (h : MemOk w con val S) {s r : Nat} {cn1 cn2 : Con} {p1 p2 : Path} {c : C} (hsr : s ≠ r) (h1 : con (s, 0) = some cn1) (h2 : con (r, 0) = some cn2) (hl1 : look cn1.xs p1 = some c) (hl2 : look cn2.xs p2 = some .hole) (hv : val (r, 0) p2 = val (s, 0) p1) :
 MemOk w (conPut (conPut con (s, 0) p1 .hole) (r, 0) p2 c) (valMove val s p1 r p2) S ∧ ∀ b k q, OwnB (conPut (conPut con (s, 0) p1 .hole) (r, 0) p2 c) (valMove val s p1 r p2) b k q → ∃ k' q', OwnB con val b k' q' := by
 obtain ⟨hm, ho⟩ := h.hole h1 hl1
 have hkr : (conPut con (s, 0) p1 .hole) (r, 0) = some cn2 := by simp [conPut, Ne.symm hsr, h2]
 have hk : conPut (conPut con (s, 0) p1 .hole) (r, 0) p2 c (r, 0) = some { cn2 with xs := puts cn2.xs c p2 } := by
  show (if (r, 0) = (r, 0) then _ else _) = _
  rw [if_pos rfl, hkr]; rfl
 have hn : ∀ k, k ≠ (r, 0) → conPut (conPut con (s, 0) p1 .hole) (r, 0) p2 c k = conPut con (s, 0) p1 .hole k := fun k hk => by
  show (if k = (r, 0) then _ else _) = _
  rw [if_neg hk]
 have hpn := look_ne hl2
 have vb : ∀ z, valMove val s p1 r p2 (r, 0) (p2 ++ z) = val (s, 0) (p1 ++ z) := fun z => by simp [valMove]
 have vn : ∀ k q, ¬ (k = (r, 0) ∧ p2 <+: q) → valMove val s p1 r p2 k q = val k q := fun k q hq => by simp only [valMove, if_neg hq]
 have vr : ∀ q, ¬ p2 <+: q → ∀ st, valMove val s p1 r p2 (r, 0) (q ++ [st]) = val (r, 0) (q ++ [st]) := fun q hq st => by
  by_cases hh : p2 <+: q ++ [st]
  ·have h3 : p2 = q ++ [st] := by
    obtain ⟨z, hz⟩ := hh
    rcases List.eq_nil_or_concat z with rfl | ⟨z', x, rfl⟩
    ·rw [List.append_nil] at hz; exact hz
    ·rw [List.concat_eq_append, ← List.append_assoc] at hz
     exact absurd ⟨z', List.append_inj_left' hz rfl⟩ hq
   rw [← h3]
   have := vb []
   rw [List.append_nil, List.append_nil] at this
   rw [this, hv]
  ·exact vn _ _ fun h4 => hh h4.2
 have hcat : ∀ z d, c.at z = some d → look cn1.xs (p1 ++ z) = some d := fun z d hd => by rw [look_append (look_ne hl1), hl1]; exact hd
 have hown : ∀ b k q, OwnB (conPut (conPut con (s, 0) p1 .hole) (r, 0) p2 c) (valMove val s p1 r p2) b k q → (k = (r, 0) ∧ ∃ z, q = p2 ++ z ∧ OwnB con val b (s, 0) (p1 ++ z)) ∨ (¬ (k = (r, 0) ∧ p2 <+: q) ∧ OwnB con val b k q ∧ ¬ (k = (s, 0) ∧ p1 <+: q)) := fun b k q hb => by
  by_cases hkk : k = (r, 0)
  ·subst hkk
   rcases hb with ⟨rfl, ⟨t', xs', h3⟩, h4⟩ | ⟨cn', t', k', rows', n', cap', h3, h4, h5⟩
   ·rw [hk] at h3
    simp only [Option.some.injEq, Con.mk.injEq] at h3
    have hnp : ¬ p2 <+: ([] : Path) := fun hh => hpn (List.prefix_nil.1 hh)
    refine .inr ⟨fun hh => hnp hh.2, ?_⟩
    exact ho b (r, 0) [] (.inl ⟨rfl, ⟨t', cn2.xs, by rw [hkr]; obtain ⟨bx, xs⟩ := cn2; cases h3.1; rfl⟩, by rw [← vn (r, 0) [] fun hh => hnp hh.2]; exact h4⟩)
   ·rw [hk] at h3
    cases h3
    rcases look_puts_cases hl2 h4 with ⟨z, rfl, hz⟩ | ⟨hnt, h6⟩
    ·rw [vb] at h5
     exact .inl ⟨rfl, z, rfl, .inr ⟨cn1, t', k', rows', n', cap', h1, hcat z _ hz, h5⟩⟩
    ·rw [vn _ _ fun hh => hnt hh.2] at h5
     rcases h6 with ⟨s', r', he, c1, h6, h7⟩ | ⟨h6, -⟩
     ·obtain ⟨rows2, rfl, -⟩ := put_own h7.symm
      exact .inr ⟨fun hh => hnt hh.2, ho b (r, 0) q (.inr ⟨cn2, t', k', rows2, n', cap', hkr, h6, h5⟩)⟩
     ·exact .inr ⟨fun hh => hnt hh.2, ho b (r, 0) q (.inr ⟨cn2, t', k', rows', n', cap', hkr, h6, h5⟩)⟩
  ·have hv1 : valMove val s p1 r p2 k = val k := funext fun q => vn k q fun hh => hkk hh.1
   exact .inr ⟨fun hh => hkk hh.1, ho b k q (hb.con (hn k hkk).symm hv1.symm)⟩
 refine ⟨⟨fun k cn' q c' h3 h4 => ?_, fun k t' xs' h3 => ?_, fun b k q k' q' h3 h4 => ?_, fun b hb => ⟨(h.sep b hb).1, fun k q h3 => ?_⟩⟩, fun b k q h3 => ?_⟩
 ·by_cases hkk : k = (r, 0)
  ·subst hkk
   rw [hk] at h3
   cases h3
   rcases look_puts_cases hl2 h4 with ⟨z, rfl, hz⟩ | ⟨hnt, ⟨s', r', he, c1, h6, rfl⟩ | ⟨h6, -⟩⟩
   ·exact (h.node (s, 0) cn1 (p1 ++ z) c' h1 (hcat z _ hz)).reval1 (vb z) fun st => by rw [List.append_assoc, vb, List.append_assoc]
   ·exact ((hm.node (r, 0) cn2 q c1 hkr h6).put).reval1 (vn _ _ fun hh => hnt hh.2) (vr q hnt)
   ·exact (hm.node (r, 0) cn2 q c' hkr h6).reval1 (vn _ _ fun hh => hnt hh.2) (vr q hnt)
  ·rw [hn k hkk] at h3
   have hv1 : valMove val s p1 r p2 k = val k := funext fun q => vn k q fun hh => hkk hh.1
   rw [hv1]
   exact hm.node k cn' q c' h3 h4
 ·by_cases hkk : k = (r, 0)
  ·subst hkk
   rw [hk] at h3
   simp only [Option.some.injEq, Con.mk.injEq] at h3
   obtain ⟨b, cur, g1, g2, g3, g4⟩ := hm.root (r, 0) t' cn2.xs (by rw [hkr]; obtain ⟨bx, xs⟩ := cn2; cases h3.1; rfl)
   have hnp : ¬ p2 <+: ([] : Path) := fun hh => hpn (List.prefix_nil.1 hh)
   rw [← h3.2]
   refine ⟨b, cur, by rw [vn _ _ fun hh => hnp hh.2]; exact g1, g2, by rw [puts_length]; exact g3, fun i hi => ?_⟩
   rw [puts_length] at hi
   have := vr [] hnp (0, i)
   rw [List.nil_append] at this
   rw [this]
   exact g4 i hi
  ·rw [hn k hkk] at h3
   have hv1 : valMove val s p1 r p2 k = val k := funext fun q => vn k q fun hh => hkk hh.1
   rw [hv1]
   exact hm.root k t' xs' h3
 ·rcases hown b k q h3 with ⟨rfl, z, rfl, h5⟩ | ⟨h5, h6, h7⟩ <;> rcases hown b k' q' h4 with ⟨rfl, z', rfl, h8⟩ | ⟨h8, h9, h10⟩
  ·obtain ⟨-, he⟩ := h.inj b _ _ _ _ h5 h8
   exact ⟨rfl, by rw [List.append_cancel_left he]⟩
  ·obtain ⟨e1, e2⟩ := h.inj b _ _ _ _ h5 h9
   exact absurd ⟨e1.symm, by rw [← e2]; exact List.prefix_append _ _⟩ h10
  ·obtain ⟨e1, e2⟩ := h.inj b _ _ _ _ h6 h8
   exact absurd ⟨e1, by rw [e2]; exact List.prefix_append _ _⟩ h7
  ·exact h.inj b k q k' q' h6 h9
 ·rcases hown b k q h3 with ⟨rfl, z, rfl, h5⟩ | ⟨h5, h6, h7⟩
  ·exact (h.sep b hb).2 _ _ h5
  ·exact (h.sep b hb).2 _ _ h6
 ·rcases hown b k q h3 with ⟨rfl, z, rfl, h5⟩ | ⟨h5, h6, h7⟩
  ·exact ⟨_, _, h5⟩
  ·exact ⟨_, _, h6⟩
theorem SV.put {e e' : Env} {w : World} {val val' : Val} {S : Nat → Prop} {s : Nat} {av : AV} {v : Value} (h : SV e w val S s av v)
 (hc0 : ∀ cn, e.con (s, 0) = some cn → ∃ cn', e'.con (s, 0) = some cn' ∧ cn'.box = cn.box ∧ cn'.xs.length = cn.xs.length) (hc : ∀ i, e'.con (s, i + 1) = e.con (s, i + 1))
 (hv : ∀ i j, val' (s, i) [(0, j)] = val (s, i) [(0, j)]) (hv0 : val' (s, 0) [] = val (s, 0) [])
 (hgen : e'.gen = e.gen) (hfr : ∀ r g p, e'.fresh r g p → e.fresh r g p ∧ val' (r, 0) p = val (r, 0) p) : SV e' w val' S s av v := by
 cases av with
 | own ag n =>
  show TVok _ _ _ _ _ _
  cases ag with
  | false =>
   obtain ⟨⟨x, g1⟩, g2, g3⟩ := h
   obtain ⟨⟨box', xs'⟩, h1, h2, h3⟩ := hc0 _ g1
   obtain ⟨x', hx'⟩ := List.length_eq_one_iff.1 (by simpa using h3)
   simp only at h2 hx'
   exact ⟨⟨x', by rw [h1, h2, hx']⟩, g2, by rw [hv]; exact g3⟩
  | true =>
   obtain ⟨xs, vs, g1, g2, g3, g4, g5⟩ := h
   obtain ⟨⟨box', xs'⟩, h1, h2, h3⟩ := hc0 _ g1
   simp only at h2 h3
   exact ⟨xs', vs, by rw [h1, h2], by omega, g3, g4, fun i hi => by rw [hv]; exact g5 i hi⟩
 | box =>
  obtain ⟨⟨t', xs', g1⟩, g2⟩ := h
  obtain ⟨⟨box', xs2⟩, h1, h2, h3⟩ := hc0 _ g1
  simp only at h2
  exact ⟨⟨t', xs2, by rw [h1, h2]⟩, by rw [hv0]; exact g2⟩
 | dead => trivial
 | c x => exact h
 | agg xs => exact h
 | rp xs => exact h
 | ref r g p ag n =>
  obtain ⟨h1, h2⟩ := h
  refine ⟨by rw [hgen]; exact h1, fun hf => ?_⟩
  have h3 := h2 fun i hi => (hfr r g _ (hf i hi)).1
  cases ag with
  | false =>
   obtain ⟨rfl, h3⟩ := h3
   exact ⟨rfl, by rw [h3]; exact ((hfr r g p (hf 0 (by omega))).2).symm⟩
  | true =>
   obtain ⟨vs, h4, h5, h6⟩ := h3
   exact ⟨vs, h4, h5, fun i hi => by rw [(hfr r g _ (hf i hi)).2]; exact h6 i hi⟩
 | ptr r g p k =>
  obtain ⟨h1, h2⟩ := h
  refine ⟨by rw [hgen]; exact h1, fun hf => ?_⟩
  obtain ⟨h3, h4⟩ := hfr r g p.dropLast hf
  obtain ⟨p', j, q, b, o, rfl, h5, h6⟩ := h2 h3
  refine ⟨p', j, q, b, o, rfl, h5, ?_⟩
  rw [List.dropLast_concat] at h4
  rcases h6 with ⟨rfl, h6, h8, h7⟩ | ⟨hne, n, cap, h6⟩
  ·exact .inl ⟨rfl, h6, h8, by rw [h4]; exact h7⟩
  ·exact .inr ⟨hne, n, cap, by rw [h4]; exact h6⟩
 | tup ts =>
  obtain ⟨vs, h1, h2, h3⟩ := h
  refine ⟨vs, h1, h2, fun i t hi => ?_⟩
  obtain ⟨u, h4, h5⟩ := h3 i t hi
  refine ⟨u, h4, ?_⟩
  rw [hc]
  exact h5.con fun j => hv (i + 1) j
 | fn g css => exact h
 | clo g rs => exact CLok.keep h (fun r => by rw [hgen]; exact Nat.le_refl _) fun r g' _ hf => hfr r g' [] hf
theorem put_fresh (e : Env) (r : Nat) (p : Path) (y : C) {r1 g : Nat} {q : Path} (h : (e.put r p y).fresh r1 g q) : e.fresh r1 g q ∧ (r1 = r → ¬ p <+: q) := by
 obtain ⟨h1, h2⟩ := h
 simp only [Env.put] at h1 h2
 by_cases hr : r1 = r
 ·subst hr
  rw [if_pos rfl] at h2
  exact ⟨⟨h1, fun d hd => h2 d (List.mem_cons_of_mem _ hd)⟩, fun _ => h2 _ (List.mem_cons_self ..)⟩
 ·rw [if_neg hr] at h2
  exact ⟨⟨h1, h2⟩, fun hh => absurd hh hr⟩
theorem put_con_len (e : Env) (r : Nat) (p : Path) (y : C) {key : CKey} {cn : Con} (h : e.con key = some cn) : ∃ cn', (e.put r p y).con key = some cn' ∧ cn'.box = cn.box ∧ cn'.xs.length = cn.xs.length := by
 by_cases hk : key = (r, 0)
 ·subst hk
  exact ⟨{ cn with xs := puts cn.xs y p }, by simp [Env.put, h], rfl, by simp [puts_length]⟩
 ·exact ⟨cn, by simp [Env.put, hk, h], rfl, rfl⟩
theorem StV.graft (h : StV w0 e a w val S) {s r : Nat} {cn1 cn2 : Con} {p1 p2 : Path} {c : C} (hsr : s ≠ r) (h1 : e.con (s, 0) = some cn1) (h2 : e.con (r, 0) = some cn2) (hl1 : look cn1.xs p1 = some c) (hl2 : look cn2.xs p2 = some .hole) (hv : val (r, 0) p2 = val (s, 0) p1) :
 StV w0 ((e.put s p1 .hole).put r p2 c) a w (valMove val s p1 r p2) S := by
 obtain ⟨hm, ho⟩ := h.mem.move hsr h1 h2 hl1 hl2 hv
 have hpn := look_ne hl2
 have hcon : ((e.put s p1 .hole).put r p2 c).con = conPut (conPut e.con (s, 0) p1 .hole) (r, 0) p2 c := rfl
 have vn : ∀ k q, ¬ (k = (r, 0) ∧ p2 <+: q) → valMove val s p1 r p2 k q = val k q := fun k q hq => by simp only [valMove, if_neg hq]
 have v2 : valMove val s p1 r p2 (r, 0) p2 = val (r, 0) p2 := by simp [valMove, hv]
 refine ⟨h.sz, h.defers, by rw [hcon]; exact hm, fun x => ?_, h.frm, fun b k q hb => ?_, fun x hx => (vn _ _ fun hh => hpn (List.prefix_nil.1 hh.2)).trans (h.rts x hx), h.sS⟩
 ·refine (h.slot x).put (fun cn hcn => ?_) (fun i => ?_) (fun i j => ?_) (vn _ _ fun hh => hpn (List.prefix_nil.1 hh.2)) rfl (fun r1 g p hf => ?_)
  ·obtain ⟨cn', g1, g2, g3⟩ := put_con_len e s p1 .hole hcn
   obtain ⟨cn3, g4, g5, g6⟩ := put_con_len (e.put s p1 .hole) r p2 c g1
   exact ⟨cn3, g4, g5.trans g2, g6.trans g3⟩
  ·simp [Env.put]
  ·by_cases hh : (x, i) = (r, 0) ∧ p2 <+: [(0, j)]
   ·have h5 : p2 = [(0, j)] := by
     obtain ⟨z, hz⟩ := hh.2
     cases p2 with
     | nil => exact absurd rfl hpn
     | cons y p2 => simp at hz; obtain ⟨rfl, rfl, rfl⟩ := hz; rfl
    rw [hh.1, ← h5, v2]
   ·exact vn _ _ hh
  ·obtain ⟨g1, g2⟩ := put_fresh _ _ _ _ hf
   obtain ⟨g3, g4⟩ := put_fresh _ _ _ _ g1
   exact ⟨g3, vn _ _ fun hh => g2 (by simpa using hh.1) hh.2⟩
 ·rw [hcon] at hb
  obtain ⟨k', q', h3⟩ := ho b k q hb
  exact h.low b k' q' h3
end
end Go.Proofs.YtdiiggpohcjppaaGreat
