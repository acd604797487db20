/- Parts of the proof, joined: Vs2, Vs3, Vs4, Ta2, Sx2. -/
import Derived.Test.YtjoimponfeofkaaGreatCJn11
import Derived.Test.YtjoimponfeofkaaGreatCJn18
import Derived.Test.YtjoimponfeofkaaGreatCJn2
import Derived.Deep.DeepCutAuto
import Derived.Test.YtjoimponfeofkaaGreatCJn3
import Derived.WalkLawsBesides
import Derived.Test.YtjoimponfeofkaaGreatCTab2
namespace Go.Proofs.YtjoimponfeofkaaGreat
open Go.RowKit

theorem spDigit_u (w : World) (gr : Nat) (s : ByteArray) (a m : Nat) (o : Bool) (h : Blk w gr 150 #[.string s, .int .i64 (a : Nat), .bool o]) (ha : a ≤ s.size) (hs : s.size ≤ 4000) :
    Calls Tryz.prog 129 #[.pointer (some ⟨gr, 0, none⟩), .int .i64 (m : Nat)] w fun e w' => ∃ (d a' : Nat) (o' : Bool), e = .returned (.int .i64 (d : Nat)) ∧ d ≤ m ∧ a' ≤ s.size ∧ a ≤ a' ∧ MovS w w' gr s a' o' ∧
      (o' = true → o = true ∧ a < a' ∧ dgt m (from_ s a) = some (d, from_ s a')) ∧ (o' = false → o = false ∨ dgt m (from_ s a) = none) := by
  cases hd : dgt m (from_ s a) with
  | none =>
    refine (spDigit_no w gr s a m o h ha hd).mono ?_
    rintro e w' ⟨rfl, hm⟩
    exact ⟨0, a, false, rfl, by omega, ha, Nat.le_refl _, hm, (fun h => by cases h), fun _ => .inr rfl⟩
  | some x =>
    obtain ⟨d, r⟩ := x
    obtain ⟨h1, h2, h3, h4⟩ := dgt_from hd
    refine (spDigit_yes w gr s a m d o r h hs hd).mono ?_
    rintro e w' ⟨rfl, hm⟩
    exact ⟨d, a + 1, o, rfl, h3, by omega, by omega, hm, fun ho => ⟨ho, by omega, by rw [h4]⟩, fun ho => .inl ho⟩
theorem spSign_u (z : Int) (b : UInt8) (hz : z = (b.toNat : Nat)) (w : World) (gr : Nat) (s : ByteArray) (a : Nat) (o : Bool) (h : Blk w gr 150 #[.string s, .int .i64 (a : Nat), .bool o]) (ha : a ≤ s.size) (hs : s.size ≤ 4000) :
    Calls Tryz.prog 130 #[.pointer (some ⟨gr, 0, none⟩), .int .u8 z] w fun e w' => ∃ (a' : Nat) (o' : Bool), e = .returned (.tuple #[]) ∧ a' ≤ s.size ∧ a ≤ a' ∧ MovS w w' gr s a' o' ∧
      (o' = true → o = true ∧ a < a' ∧ sgn b (from_ s a) = some (from_ s a')) ∧ (o' = false → o = false ∨ sgn b (from_ s a) = none) := by
  cases hd : sgn b (from_ s a) with
  | none =>
    refine (spSign_no z b hz w gr s a o h ha hd).mono ?_
    rintro e w' ⟨rfl, hm⟩
    exact ⟨a, false, rfl, ha, Nat.le_refl _, hm, (fun h => by cases h), fun _ => .inr rfl⟩
  | some r =>
    obtain ⟨h1, h2, h4⟩ := sgn_from hd
    refine (spSign_yes z b hz w gr s a o r h hs hd).mono ?_
    rintro e w' ⟨rfl, hm⟩
    exact ⟨a + 1, o, rfl, by omega, by omega, hm, fun ho => ⟨ho, by omega, by rw [h4]⟩, fun ho => .inl ho⟩

/-- what the reference's reader of views gives -/
def SvPost (f : Nat) (w : World) (gr : Nat) (s : ByteArray) (a : Nat) (o : Bool) (e : Ending) (w' : World) : Prop :=
  ∃ (p a' : Nat) (o' : Bool) (dg i dp : Nat) (vp vt : Value), e = .returned (.pointer (some ⟨p, 0, none⟩)) ∧ a' ≤ s.size ∧ a ≤ a' ∧ MovS w w' gr s a' o' ∧ w.heap.size ≤ p ∧
    Blk w' p 125 #[.int .i64 (dg : Nat), .int .i64 (i : Nat), vp, vt, .int .i64 (dp : Nat)] ∧ dp ≤ f ∧
    (o' = true → o = true ∧ a < a' ∧ ∃ t, pv f (from_ s a) = some (t, from_ s a') ∧ TreeR w' (fun b => w.heap.size ≤ b) t p ∧ dg = t.deg ∧ dp = t.dep) ∧ (o' = false → o = false ∨ pv f (from_ s a) = none)
/-- the reference's node -/
abbrev SvSt (w : World) (gr p : Nat) (s : ByteArray) (a : Int) (o : Bool) (d i dp : Int) (vp0 vt0 vp vt : Value) (ps qs rs : List Nat) (ts : List VT) (wr : World) : Prop := NodeSt 150 125 120 w gr p #[.string s, .int .i64 a, .bool o] d i dp vp0 vt0 vp vt ps qs rs ts wr
theorem NodeSt.mvS {TN TP : TypeId} {w wr : World} {gr p : Nat} {s : ByteArray} {a : Nat} {o : Bool} {d i dp : Int} {vp0 vt0 vp vt : Value} {ps qs rs : List Nat} {ts : List VT} (h : NodeSt 150 TN TP w gr p #[.string s, .int .i64 (a : Nat), .bool o] d i dp vp0 vt0 vp vt ps qs rs ts wr) : MovS w wr gr s a o := ⟨h.rdr, h.grw⟩
/-- the loop over the parts -/
def SvRel (f : Nat) (w : World) (gr p : Nat) (s : ByteArray) (a a3 d i : Nat) (c : Value) (wr : World) : Prop :=
  ∃ (k a1 : Nat) (o : Bool) (dp : Nat) (vp vt : Value) (ps qs rs : List Nat) (ts : List VT), c = .int .i64 k ∧ k ≤ d ∧ a1 ≤ s.size ∧ a3 ≤ a1 ∧ dp ≤ f + 1 ∧ ps.length = k ∧ qs.length = k ∧
    SvSt w gr p s (a1 : Nat) o d i dp vp vt vp vt ps qs rs ts wr ∧
    (o = true → rs = qs ∧ ts.length = k ∧ dp = deps ts ∧ pks (pv f) d 40 (from_ s a3) = pre ps ts (pks (pv f) (d - k) (if k = 0 then 40 else 44) (from_ s a1))) ∧ (o = false → pv (f + 1) (from_ s a) = none)
theorem ptrTS : Nonempty (ElemT Tryz.prog encP 123 120) := ElemT.of (z := .pointer none) (n := 1) (bytes := 8) Tryz.underlying123 (by kernel_rfl) rfl rfl (by omega)
theorem SvPost.bad {f : Nat} {w wr : World} {gr p : Nat} {s : ByteArray} {a a' : Nat} {o : Bool} {dg i dp : Nat} {vp0 vt0 vp vt : Value} {ps qs rs : List Nat} {ts : List VT} (h : SvSt w gr p s (a' : Nat) false dg i dp vp0 vt0 vp vt ps qs rs ts wr) (ha : a' ≤ s.size) (haa : a ≤ a') (hdp : dp ≤ f) (hb : o = false ∨ pv f (from_ s a) = none) :
    SvPost f w gr s a o (.returned (.pointer (some ⟨p, 0, none⟩))) wr :=
  ⟨p, a', false, dg, i, dp, vp0, vt0, rfl, ha, haa, h.mvS, h.hp, h.node, hdp, (fun h => by cases h), fun _ => hb⟩
theorem SvPost.ok {f : Nat} {w wr : World} {gr p : Nat} {s : ByteArray} {a a' : Nat} {d i : Nat} {vp vt : Value} {ps qs : List Nat} {ts : List VT} (h : SvSt w gr p s (a' : Nat) true d i (deps ts : Nat) vp vt vp vt ps qs qs ts wr) (ha : a' ≤ s.size) (haa : a < a') (hdp : deps ts ≤ f) (hb : pv f (from_ s a) = some (.mk d i ps ts, from_ s a')) :
    SvPost f w gr s a true (.returned (.pointer (some ⟨p, 0, none⟩))) wr :=
  ⟨p, a', true, d, i, deps ts, vp, vt, rfl, ha, by omega, h.mvS, h.hp, h.node, hdp, fun _ => ⟨rfl, haa, _, hb, NodeSt.tree h, rfl, dep_mk.symm⟩, fun h => by cases h⟩
theorem MovS.drew_ {w w' : World} {gr : Nat} {s : ByteArray} {a : Nat} {o : Bool} (h : MovS w w' gr s a o) (n : Nat) : MovS w (w'.drewN n) gr s a o := h.trans (MovS.same h.1 n)
theorem NodeSt.drewN_ {TR TN TP : TypeId} {w wr : World} {gr p : Nat} {rd : Array Value} {d i dp : Int} {vp0 vt0 vp vt : Value} {ps qs rs : List Nat} {ts : List VT} (h : NodeSt TR TN TP w gr p rd d i dp vp0 vt0 vp vt ps qs rs ts wr) (n : Nat) : NodeSt TR TN TP w gr p rd d i dp vp0 vt0 vp vt ps qs rs ts (wr.drewN n) := h.below (below_drewN (Below.refl _ _) n)

theorem sv_none {p : List UInt8 → Option (VT × List UInt8)} {m j dg a1 a4 a5 a6 a8 : Nat} {sep : UInt8} {s : ByteArray} {o4 o5 o6 o8 o9 : Bool}
    (t4 : o4 = true → sgn sep (from_ s a1) = some (from_ s a4)) (f4 : o4 = false → sgn sep (from_ s a1) = none)
    (t5 : o5 = true → o4 = true ∧ dgt 5 (from_ s a4) = some (j, from_ s a5)) (f5 : o5 = false → o4 = false ∨ dgt 5 (from_ s a4) = none)
    (t6 : o6 = true → o5 = true ∧ sgn 58 (from_ s a5) = some (from_ s a6)) (f6 : o6 = false → o5 = false ∨ sgn 58 (from_ s a5) = none)
    (t8 : o8 = true → o6 = true ∧ ∃ t, p (from_ s a6) = some (t, from_ s a8) ∧ dg = t.deg) (f8 : o8 = false → o6 = false ∨ p (from_ s a6) = none)
    (h9 : o9 = (o8 && decide (j < dg))) (hf : o9 = false) : pks p (m + 1) sep (from_ s a1) = none := by
  cases o4 with
  | false => exact pks_none1 _ (f4 rfl)
  | true =>
    have k4 := t4 rfl
    cases o5 with
    | false =>
      rcases f5 rfl with h | h
      · cases h
      · exact pks_none2 _ k4 h
    | true =>
      have k5 := (t5 rfl).2
      cases o6 with
      | false =>
        rcases f6 rfl with h | h
        · cases h
        · exact pks_none3 _ k4 k5 h
      | true =>
        have k6 := (t6 rfl).2
        cases o8 with
        | false =>
          rcases f8 rfl with h | h
          · cases h
          · exact pks_none4 _ k4 k5 k6 h
        | true =>
          obtain ⟨-, t, h, hd⟩ := t8 rfl
          refine pks_none5 _ k4 k5 k6 h ?_
          rw [hf] at h9
          simp at h9
          omega

set_option maxRecDepth 100000 in
set_option maxHeartbeats 2000000 in
theorem spView_false (f : Nat) (w : World) (gr : Nat) (s : ByteArray) (a : Nat) (hb : Blk w gr 150 #[.string s, .int .i64 (a : Nat), .bool false]) (ha : a ≤ s.size) (hs : s.size ≤ 4000) :
    Calls Tryz.prog 110 #[.pointer (some ⟨gr, 0, none⟩)] w (SvPost f w gr s a false) := by
  have hgl : gr < w.heap.size := hb.lt
  have HB := Lib.hid hb
  clear hb
  go_enter Tryz.func110, Tryz.ntmps110
  go_wp2_with fail
  refine (spDigit_u w gr s a 6 false HB.out ha hs).mono ?_
  rintro e w1 ⟨d, a1, o1, rfl, hd6, ha1, haa1, hm1, ht1, hf1⟩
  have hz1 : w.heap.size ≤ w1.heap.size := hm1.2.size
  have hst : SvSt w gr w1.heap.size s (a1 : Nat) o1 d 0 0 (.slice none 0 0) (.slice none 0 0) (.slice none 0 0) (.slice none 0 0) [] [] [] [] (w1.alloc (.cells #[.int .i64 d, .int .i64 0, .slice none 0 0, .slice none 0 0, .int .i64 0] 125)) := NodeSt.new hm1.1 hgl hm1.2 d
  have HS := Lib.hid hst
  have HT1 := Lib.hid ht1
  have HF1 := Lib.hid hf1
  clear hm1 hst ht1 hf1
  obtain ⟨p, hp⟩ : ∃ p, p = w1.heap.size := ⟨_, rfl⟩
  have hpz : w.heap.size ≤ p := by omega
  go_wp2_with fail
  rw [← hp] at HS ⊢
  clear hp
  generalize w1.alloc _ = wa at *
  refine (spSign_u 46 46 rfl wa gr s a1 o1 HS.out.rdr ha1 hs).mono ?_
  rintro e w2 ⟨a2, o2, rfl, ha2, haa2, hm2, ht2, hf2⟩
  have HS2 := Lib.hid (HS.out.moved hm2.1 hm2.2)
  have HT2 := Lib.hid ht2
  have HF2 := Lib.hid hf2
  clear hm2 ht2 hf2 HS
  go_wp2_with fail
  refine (spDigit_u w2 gr s a2 9 o2 HS2.out.rdr ha2 hs).mono ?_
  rintro e w3 ⟨i, a3, o3, rfl, hi9, ha3, haa3, hm3, ht3, hf3⟩
  have HS3 := Lib.hid (HS2.out.moved hm3.1 hm3.2)
  have HS4 := Lib.hid (HS3.out.put1 (i : Int))
  have HT3 := Lib.hid ht3
  have HF3 := Lib.hid hf3
  have hc3 := HS3.out.node.cell
  have hf3' := HS3.out.node.free
  have hr3 := HS3.out.rdr.cell
  clear hm3 ht3 hf3 HS2
  cases o3 with
  | true => exact absurd (HT1.out (HT2.out (HT3.out rfl).1).1).1 (by simp)
  | false =>
    go_wp2_with fail
    go_quiet (fail)
    go_wp2_with fail
    go_ret
    exact SvPost.bad (dp := 0) (HS4.out.drewN_ _) ha3 (by omega) (Nat.zero_le _) (.inl rfl)

set_option maxRecDepth 100000 in
set_option maxHeartbeats 4000000 in
theorem spView (f : Nat) : ∀ (w : World) (gr : Nat) (s : ByteArray) (a : Nat) (o : Bool), Blk w gr 150 #[.string s, .int .i64 (a : Nat), .bool o] → a ≤ s.size → s.size ≤ 4000 → (o = true → s.size - a < f) → f ≤ 8000 →
    Calls Tryz.prog 110 #[.pointer (some ⟨gr, 0, none⟩)] w (SvPost f w gr s a o) := by
  induction f with
  | zero =>
    intro w gr s a o hb ha hs hf _
    cases o with
    | true => exact absurd (hf rfl) (by omega)
    | false => exact spView_false 0 w gr s a hb ha hs
  | succ f ih =>
    intro w gr s a o hb ha hs hf hf8
    cases o with
    | false => exact spView_false (f + 1) w gr s a hb ha hs
    | true =>
    have hf := hf rfl
    have HB := Lib.hid hb
    have IH := Lib.hid ih
    have hgl : gr < w.heap.size := hb.lt
    clear hb ih
    go_enter Tryz.func110, Tryz.ntmps110
    go_wp2_with fail
    refine (spDigit_u w gr s a 6 true HB.out ha hs).mono ?_
    rintro e w1 ⟨d, a1, o1, rfl, hd6, ha1, haa1, hm1, ht1, hf1⟩
    have hz1 : w.heap.size ≤ w1.heap.size := hm1.2.size
    have hst : SvSt w gr w1.heap.size s (a1 : Nat) o1 d 0 0 (.slice none 0 0) (.slice none 0 0) (.slice none 0 0) (.slice none 0 0) [] [] [] [] (w1.alloc (.cells #[.int .i64 d, .int .i64 0, .slice none 0 0, .slice none 0 0, .int .i64 0] 125)) := NodeSt.new hm1.1 hgl hm1.2 d
    have HS := Lib.hid hst
    have HT1 := Lib.hid ht1
    have HF1 := Lib.hid hf1
    clear hm1 hst ht1 hf1
    obtain ⟨p, hp⟩ : ∃ p, p = w1.heap.size := ⟨_, rfl⟩
    have hpz : w.heap.size ≤ p := by omega
    go_wp2_with fail
    rw [← hp] at HS ⊢
    clear hp
    generalize w1.alloc _ = wa at *
    refine (spSign_u 46 46 rfl wa gr s a1 o1 HS.out.rdr ha1 hs).mono ?_
    rintro e w2 ⟨a2, o2, rfl, ha2, haa2, hm2, ht2, hf2⟩
    have HS2 := Lib.hid (HS.out.moved hm2.1 hm2.2)
    have HT2 := Lib.hid ht2
    have HF2 := Lib.hid hf2
    clear hm2 ht2 hf2 HS
    go_wp2_with fail
    refine (spDigit_u w2 gr s a2 9 o2 HS2.out.rdr ha2 hs).mono ?_
    rintro e w3 ⟨i, a3, o3, rfl, hi9, ha3, haa3, hm3, ht3, hf3⟩
    have HS3 := Lib.hid (HS2.out.moved hm3.1 hm3.2)
    have HS4 := Lib.hid (HS3.out.put1 (i : Int))
    have HT3 := Lib.hid ht3
    have HF3 := Lib.hid hf3
    have hc3 := HS3.out.node.cell
    have hf3' := HS3.out.node.free
    have hr3 := HS3.out.rdr.cell
    clear hm3 ht3 hf3 HS2
    cases o3 with
    | false =>
      have HN : Hid (pv (f + 1) (from_ s a) = none) := Lib.hid (by
        rcases HF3.out rfl with h3 | h3
        · rcases HF2.out h3 with h2 | h2
          · rcases HF1.out h2 with h1 | h1
            · cases h1
            · exact pv_no1 h1
          · cases o1 with
            | true => exact pv_no2 (HT1.out rfl).2.2 h2
            | false =>
              rcases HF1.out rfl with h1 | h1
              · cases h1
              · exact pv_no1 h1
        · cases o2 with
          | true => exact pv_no3 (HT1.out (HT2.out rfl).1).2.2 (HT2.out rfl).2.2 h3
          | false =>
            rcases HF2.out rfl with h2 | h2
            · rcases HF1.out h2 with h1 | h1
              · cases h1
              · exact pv_no1 h1
            · cases o1 with
              | true => exact pv_no2 (HT1.out rfl).2.2 h2
              | false =>
                rcases HF1.out rfl with h1 | h1
                · cases h1
                · exact pv_no1 h1)
      go_wp2_with fail
      go_quiet (fail)
      go_wp2_with fail
      go_ret
      exact SvPost.bad (dp := 0) (HS4.out.drewN_ _) ha3 (by omega) (Nat.zero_le _) (.inr HN.out)
    | true =>
    obtain ⟨rfl, hlt3, h3⟩ := HT3.out rfl
    obtain ⟨rfl, hlt2, h2⟩ := HT2.out rfl
    obtain ⟨-, hlt1, h1⟩ := HT1.out rfl
    have H1 := Lib.hid h1
    have H2 := Lib.hid h2
    have H3 := Lib.hid h3
    clear h1 h2 h3 HT1 HT2 HT3 HF1 HF2 HF3
    by_cases hd : d = 0
    · subst hd
      have HN := Lib.hid (pv_leaf (f := f) H1.out H2.out H3.out (.inl rfl))
      go_wp2_with fail
      go_quiet (fail)
      go_wp2_with fail
      go_ret
      exact SvPost.ok (ts := []) (ps := []) (qs := []) (HS4.out.drewN_ _) ha3 (by omega) (Nat.zero_le _) HN.out
    have hde : ((d : Int) == 0) = false := by simp [hd]
    cases h4 : sgn 40 (from_ s a3) with
    | none =>
      have HN := Lib.hid (pv_leaf (f := f) H1.out H2.out H3.out (.inr h4))
      by_cases hl : a3 < s.size
      · have hne := sgn_from_none h4 hl
        have e1 : ((a3 : Int) == (s.size : Int)) = false := by simp; omega
        have e2 : ((s[a3].toNat : Int) != 40) = true := by
          simp only [bne_iff_ne, ne_eq]
          intro e
          exact hne (UInt8.toNat_inj.1 (by have : (40 : UInt8).toNat = 40 := rfl; omega))
        have i1 : (0 : Int) ≤ (a3 : Int) := by omega
        have i2 : (a3 : Int) < (s.size : Int) := by omega
        clear h4 hne
        go_wp2_with fail
        go_quiet (fail)
        go_wp2_with fail
        go_ret
        exact SvPost.ok (ts := []) (ps := []) (qs := []) (HS4.out.drewN_ _) ha3 (by omega) (Nat.zero_le _) HN.out
      · obtain rfl : a3 = s.size := by omega
        have e1 : ((s.size : Int) == (s.size : Int)) = true := by simp
        clear h4 hl
        go_wp2_with fail
        go_quiet (fail)
        go_wp2_with fail
        go_ret
        exact SvPost.ok (ts := []) (ps := []) (qs := []) (HS4.out.drewN_ _) ha3 (by omega) (Nat.zero_le _) HN.out
    | some l4 =>
    obtain ⟨hl4, hb4, hr4⟩ := sgn_from h4
    have HX := Lib.hid (pv_kids (f := f) H1.out H2.out H3.out hd h4)
    have e1 : ((a3 : Int) == (s.size : Int)) = false := by simp; omega
    have e2 : ((s[a3].toNat : Int) != 40) = false := by rw [hb4]; rfl
    have i1 : (0 : Int) ≤ (a3 : Int) := by omega
    have i2 : (a3 : Int) < (s.size : Int) := by omega
    clear h4 hb4 hr4
    go_wp2_with fail
    go_quiet (fail)
    go_wp2_with fail
    have HS5 := Lib.hid (HS4.out.drewN_ nq)
    clear HS4 HS3 hc3 hf3' hr3 e1
    generalize (World.setCell w3 ⟨p, 1, none⟩ (.int .i64 (i : Nat))).drewN nq = w5 at *
    go_loopw [4] (fun c wr => SvRel f w gr p s a a3 d i c wr) (fun c _ => d - (intOf c).toNat)
    case atStart => exact ⟨0, a3, true, 0, _, _, [], [], [], [], rfl, Nat.zero_le _, ha3, Nat.le_refl _, Nat.zero_le _, rfl, rfl, HS5.out, fun _ => ⟨rfl, rfl, rfl, (pre_nil _).symm⟩, fun h => by cases h⟩
    case round =>
      clear HS5
      obtain ⟨k, a1, o, dp, vp, vt, ps, qs, rs, ts, rfl, hk, hal, haf, hdp, hpl, hql, hst, htr, hfa⟩ := hrel
      have HS := Lib.hid hst
      have HT := Lib.hid htr
      have HF := Lib.hid hfa
      have hc := hst.node.cell
      have hr := hst.rdr.cell
      clear hst htr hfa
      by_cases hlt : k < d ∧ o = true
      · obtain ⟨hlt, rfl⟩ := hlt
        obtain ⟨m, hm⟩ : ∃ m, d - k = m + 1 := ⟨d - k - 1, by omega⟩
        obtain ⟨hrq, htl, hdd, hx⟩ := HT.out rfl
        subst hrq hdd
        obtain ⟨sep, hsep⟩ : ∃ sep : UInt8, sep = if k = 0 then 40 else 44 := ⟨_, rfl⟩
        have HXX : Hid (pv (f + 1) (from_ s a) = fin d i (pre ps ts (pks (pv f) (m + 1) sep (from_ s a1)))) := Lib.hid (by rw [HX.out, hx, hm, ← hsep])
        have HX1 : Hid (pks (pv f) d 40 (from_ s a3) = pre ps ts (pks (pv f) (m + 1) sep (from_ s a1))) := Lib.hid (by rw [hx, hm, ← hsep])
        have HM := Lib.hid hm
        have HSEP := Lib.hid hsep
        clear hm hx hsep HT HF
        go_upto_if 70 with (fail)
        go_cut [] (fun W => ∃ (a4 : Nat) (o4 : Bool), a4 ≤ s.size ∧ a1 ≤ a4 ∧ SvSt w gr p s (a4 : Nat) o4 d i (deps ts : Nat) vp vt vp vt ps rs rs ts W ∧ (o4 = true → sgn sep (from_ s a1) = some (from_ s a4)) ∧ (o4 = false → sgn sep (from_ s a1) = none))
        case first =>
          by_cases hk0 : k = 0
          · have e1 : ((k : Int) == 0) = true := by simp [hk0]
            have C4 := Lib.hid (spSign_u 40 40 rfl wr gr s a1 true HS.out.rdr hal hs)
            have HE : Hid (sep = 40) := Lib.hid (by rw [HSEP.out, if_pos hk0])
            clear hk0
            go_wp2_with (go_at_call 130; refine C4.out.mono ?_; rintro e w4 ⟨a4, o4, rfl, ha4, haa4, hm4, ht4, hf4⟩; have HS4 := Lib.hid (HS.out.moved hm4.1 hm4.2); have HT4 := Lib.hid ht4; have HF4 := Lib.hid hf4; clear hm4 ht4 hf4)
            go_meet
            exact ⟨a4, o4, ha4, haa4, HS4.out, fun h => by rw [HE.out]; exact (HT4.out h).2.2, fun h => by rw [HE.out]; rcases HF4.out h with h | h; cases h; exact h⟩
          · have e1 : ((k : Int) == 0) = false := by simp [hk0]
            have C4 := Lib.hid (spSign_u 44 44 rfl wr gr s a1 true HS.out.rdr hal hs)
            have HE : Hid (sep = 44) := Lib.hid (by rw [HSEP.out, if_neg hk0])
            clear hk0
            go_wp2_with (go_at_call 130; refine C4.out.mono ?_; rintro e w4 ⟨a4, o4, rfl, ha4, haa4, hm4, ht4, hf4⟩; have HS4 := Lib.hid (HS.out.moved hm4.1 hm4.2); have HT4 := Lib.hid ht4; have HF4 := Lib.hid hf4; clear hm4 ht4 hf4)
            go_meet
            exact ⟨a4, o4, ha4, haa4, HS4.out, fun h => by rw [HE.out]; exact (HT4.out h).2.2, fun h => by rw [HE.out]; rcases HF4.out h with h | h; cases h; exact h⟩
        case rest =>
        obtain ⟨a4, o4, ha4, haa4, hst4, ht4, hf4⟩ := hcut
        have HS4 := Lib.hid hst4
        have HT4 := Lib.hid ht4
        have HF4 := Lib.hid hf4
        clear hst4 ht4 hf4 HS hc hr
        go_wp2_with fail
        refine (spDigit_u _ gr s a4 5 o4 HS4.out.rdr ha4 hs).mono ?_
        rintro e w5 ⟨j, a5, o5, rfl, hj5, ha5, haa5, hm5, ht5, hf5⟩
        have HS5 := Lib.hid (HS4.out.moved hm5.1 hm5.2)
        have HT5 := Lib.hid ht5
        have HF5 := Lib.hid hf5
        clear hm5 ht5 hf5 HS4
        go_wp2_with fail
        refine (spSign_u 58 58 rfl w5 gr s a5 o5 HS5.out.rdr ha5 hs).mono ?_
        rintro e w6 ⟨a6, o6, rfl, ha6, haa6, hm6, ht6, hf6⟩
        have HS6 := Lib.hid (HS5.out.moved hm6.1 hm6.2)
        have HT6 := Lib.hid ht6
        have HF6 := Lib.hid hf6
        clear hm6 ht6 hf6 HS5
        go_wp2_with fail
        refine (IH.out w6 gr s a6 o6 HS6.out.rdr ha6 hs (fun _ => by omega) (by omega)).mono ?_
        rintro e w8 ⟨p8, a8, o8, dg, i8, dp8, vp8, vt8, rfl, ha8, haa8, hm8, hp8, hb8, hdp8, ht8, hf8⟩
        obtain ⟨rs', ts', hst8, hor8⟩ : ∃ rs' ts', SvSt w gr p s (a8 : Nat) o8 d i (deps ts : Nat) vp vt vp vt ps rs rs' ts' w8 ∧ (o8 = true → rs' = rs ++ [p8] ∧ ∃ t, ts' = ts ++ [t] ∧ pv f (from_ s a6) = some (t, from_ s a8) ∧ dg = t.deg ∧ dp8 = t.dep) := by
          cases o8 with
          | false => exact ⟨rs, ts, HS6.out.moved hm8.1 hm8.2, fun h => by cases h⟩
          | true =>
            obtain ⟨-, -, t, h1, h2, h3, h4⟩ := ht8 rfl
            exact ⟨rs ++ [p8], ts ++ [t], HS6.out.part hm8.1 hm8.2 h2, fun _ => ⟨rfl, t, rfl, h1, h3, h4⟩⟩
        have HS8 := Lib.hid hst8
        have HO8 := Lib.hid hor8
        have HT8 := Lib.hid ht8
        have HF8 := Lib.hid hf8
        have HB8 := Lib.hid hb8
        have hk8 := hb8.cell
        have hn8 := HS8.out.node.cell
        have hr8 := HS8.out.rdr.cell
        have hg8 := HS8.out.rdr.free
        obtain ⟨hpp1, hpp2⟩ : p8 ≠ p ∧ p8 ≠ gr := ⟨by have := HS6.out.node.lt; omega, by have := HS6.out.rdr.lt; omega⟩
        have HV1 : Hid (∀ g, vp.ownBlock = some g → g ≠ p8) := Lib.hid fun g hg => by have := (HS6.out.own1.blk g hg).2; omega
        have HV2 : Hid (∀ g, vt.ownBlock = some g → g ≠ p8) := Lib.hid fun g hg => by have := (HS6.out.own2.lt g hg).2; omega
        clear hm8 hb8 ht8 hf8 hst8 hor8 HS6
        go_upto_region 15 with (fail)
        go_cut [] (fun W => W = w8.setCell ⟨gr, 2, none⟩ (.bool (o8 && decide (j < dg))))
        case first =>
          cases o8
          · go_wp2_with fail
            go_meet
            rfl
          · by_cases hj : j < dg
            · have e1 : decide (j < dg) = true := by simp [hj]
              go_wp2_with fail
              go_meet
              simp [hj]
            · have e1 : decide (j < dg) = false := by simp [hj]
              go_wp2_with fail
              go_meet
              simp [hj]
        case rest =>
        obtain rfl := hcut
        obtain ⟨o9, ho9⟩ : ∃ o9, o9 = (o8 && decide (j < dg)) := ⟨_, rfl⟩
        rw [← ho9]
        have HS9 : Hid (SvSt w gr p s (a8 : Nat) o9 d i (deps ts : Nat) vp vt vp vt ps rs rs' ts' (w8.setCell ⟨gr, 2, none⟩ (.bool o9))) := Lib.hid (HS8.out.moved (HS8.out.rdr.put 2 (.bool o9)) (grown_set1 _ _ _ _))
        have HB9 := Lib.hid (HB8.out.far (p := ⟨gr, 2, none⟩) hpp2 (.bool o9))
        have HO9 := Lib.hid ho9
        clear ho9 HS8 HB8 hk8 hn8 hr8 hg8
        generalize w8.setCell ⟨gr, 2, none⟩ (.bool o9) = w9 at *
        have hn9 := HS9.out.node.cell
        go_upto_region 17 with (refine wpList_append_intsL (S := fun _ => True) _ rfl (.tmp 100) (.tmp 102) rfl w.heap.size vp (zs ps) rfl (NodeSt.alloc_ HS9.out).own1 _ [(j : Int)] rfl (IntsR.oneAt (Blk.newAt rfl)) (by simp [zs]; omega) (NodeSt.alloc_ HS9.out).grw.size ?_; intro A1 c1 w10 ho hg hl; have HSA := Lib.hid ((NodeSt.alloc_ HS9.out).app1 ho hg hl); have HBA := Lib.hid (Blk.kept (HB9.out.alloc _) hg (fun e => HV1.out _ e.symm rfl)); clear ho hg hl; have kA := HSA.out.node.cell; have fA := HSA.out.node.free)
        obtain ⟨v1, hv1⟩ : ∃ v1, v1 = Value.slice A1 ((zs ps).length + 1) c1 := ⟨_, rfl⟩
        have HSV : Hid (SvSt w gr p s (a8 : Nat) o9 d i (deps ts : Nat) vp vt v1 vt (ps ++ [j]) rs rs' ts' w10) := Lib.hid (by rw [hv1]; exact HSA.out)
        rw [← hv1]
        clear HSA hv1
        have HSA2 := Lib.hid (HSV.out.store (HSV.out.node.put 2 v1) (grown_set1 w10 p 2 v1))
        have HBA2 := Lib.hid (HBA.out.far (p := ⟨p, 2, none⟩) hpp1 v1)
        clear HSV HBA kA fA hn9 HS9 HB9
        generalize w10.setCell ⟨p, 2, none⟩ v1 = wb at *
        have hnb := HSA2.out.node.cell
        go_upto_region 18 with (refine wpList_append_G ptrTS (S := fun _ => True) _ rfl (.tmp 110) (.tmp 112) rfl w.heap.size vt rs rfl (NodeSt.alloc_ HSA2.out).own2 _ [p8] rfl (SlR.oneP (Blk.newAt rfl)) (by simp; omega) (NodeSt.alloc_ HSA2.out).grw.size ?_; intro A2 c2 w11 ho hg hl; have HSB := Lib.hid ((NodeSt.alloc_ HSA2.out).app2 ho hg hl); have HBB := Lib.hid (Blk.kept (HBA2.out.alloc _) hg (fun e => HV2.out _ e.symm rfl)); clear ho hg hl; have kA := HSB.out.node.cell; have fA := HSB.out.node.free)
        obtain ⟨v2, hv2⟩ : ∃ v2, v2 = Value.slice A2 (k + 1) c2 := ⟨_, rfl⟩
        have HSW : Hid (SvSt w gr p s (a8 : Nat) o9 d i (deps ts : Nat) v1 vt v1 v2 (ps ++ [j]) (rs ++ [p8]) rs' ts' w11) := Lib.hid (by rw [hv2, ← hql]; exact HSB.out)
        rw [← hv2]
        clear HSB hv2
        have HSB2 := Lib.hid (HSW.out.store (HSW.out.node.put 3 v2) (grown_set1 w11 p 3 v2))
        have HBB2 := Lib.hid (HBB.out.far (p := ⟨p, 3, none⟩) hpp1 v2)
        clear HSW HBB kA fA hnb HSA2 HBA2
        generalize w11.setCell ⟨p, 3, none⟩ v2 = wc2 at *
        have hn2 := HSB2.out.node.cell
        have hf2 := HSB2.out.node.free
        have hb2 := HBB2.out.cell
        have hw1 : IntKind.i64.wrap ((dp8 : Int) + 1) = (dp8 : Int) + 1 := IntWalk.i64_in _ (by omega)
        have HMX : Hid (max ((deps ts : Nat) : Int) ((dp8 : Int) + 1) = ((max (deps ts) (dp8 + 1) : Nat) : Int)) := Lib.hid (by omega)
        have HREL : Hid (∀ W, SvSt w gr p s (a8 : Nat) o9 d i ((max (deps ts) (dp8 + 1) : Nat) : Int) v1 v2 v1 v2 (ps ++ [j]) (rs ++ [p8]) rs' ts' W → SvRel f w gr p s a a3 d i (.int .i64 ((k : Int) + 1)) W) := Lib.hid fun W hW => by
          refine ⟨k + 1, a8, o9, max (deps ts) (dp8 + 1), v1, v2, ps ++ [j], rs ++ [p8], rs', ts', by go_num, by omega, ha8, by omega, by omega, by simp [hpl], by simp [hql], hW, fun ho => ?_, fun ho => ?_⟩
          · have h9 := HO9.out
            rw [ho] at h9
            simp only [Bool.true_eq, Bool.and_eq_true, decide_eq_true_eq] at h9
            obtain ⟨h8, hj⟩ := h9
            obtain ⟨e1, t, e2, e3, e4, e5⟩ := HO8.out h8
            obtain ⟨h6, -, -⟩ := HT8.out h8
            obtain ⟨h5, -, k6⟩ := HT6.out h6
            obtain ⟨h4, -, k5⟩ := HT5.out h5
            have k4 := HT4.out h4
            subst e1 e2
            refine ⟨rfl, by simp [htl], by rw [deps_snoc, e5], ?_⟩
            rw [HX1.out, pre_step (pv f) ps ts k4 k5 k6 e3 (by omega), if_neg (by omega), show d - (k + 1) = m by have := HM.out; omega]
          · exact (by
              rw [HXX.out, sv_none (p := pv f) (t4 := HT4.out) (f4 := HF4.out) (t5 := fun h => ⟨(HT5.out h).1, (HT5.out h).2.2⟩) (f5 := HF5.out) (t6 := fun h => ⟨(HT6.out h).1, (HT6.out h).2.2⟩) (f6 := HF6.out)
                (t8 := fun h => ⟨(HT8.out h).1, by obtain ⟨-, -, t, h1, -, h3, -⟩ := HT8.out h; exact ⟨t, h1, h3⟩⟩) (f8 := HF8.out) (h9 := HO9.out) (hf := ho)]
              rfl)
        go_region_with ((go_at_call 131; refine (l1Most_any _ _ _).mono ?_; rintro e w14 ⟨rfl, rfl⟩; rw [HMX.out]))
        all_goals
          go_wp2_with fail
          go_roundw
          case rel => exact HREL.out _ (NodeSt.drew_ (HSB2.out.put4 _))
          case measure => simp [intOf]; omega
      · cases o with
        | false =>
          have HN : Hid (pv (f + 1) (from_ s a) = none) := Lib.hid (HF.out rfl)
          have C9 := Lib.hid (spSign_u 41 41 rfl wr gr s a1 false HS.out.rdr hal hs)
          clear HF HT
          by_cases hkd : k < d
          all_goals
            go_wp2_with (go_at_call 130; refine C9.out.mono ?_; rintro e w9 ⟨a9, o9, rfl, ha9, haa9, hm9, ht9, hf9⟩; have HS9 := Lib.hid (HS.out.moved hm9.1 hm9.2); have HT9 := Lib.hid ht9; clear hm9 ht9 hf9)
            go_ret
            cases o9 with
            | true => exact absurd (HT9.out rfl).1 (by simp)
            | false => exact SvPost.bad HS9.out ha9 (by omega) hdp (.inr HN.out)
        | true =>
          obtain rfl : k = d := by
            have : ¬ k < d := fun h => hlt ⟨h, rfl⟩
            omega
          obtain ⟨hrq, htl, hdd, hx⟩ := HT.out rfl
          subst hrq hdd
          have HXX : Hid (pv (f + 1) (from_ s a) = fin k i (some (ps, ts, from_ s a1))) := Lib.hid (by rw [HX.out, hx, Nat.sub_self, pre_zero])
          have C9 := Lib.hid (spSign_u 41 41 rfl wr gr s a1 true HS.out.rdr hal hs)
          clear HF HT hx hlt
          go_wp2_with (go_at_call 130; refine C9.out.mono ?_; rintro e w9 ⟨a9, o9, rfl, ha9, haa9, hm9, ht9, hf9⟩; have HS9 := Lib.hid (HS.out.moved hm9.1 hm9.2); have HT9 := Lib.hid ht9; have HF9 := Lib.hid hf9; clear hm9 ht9 hf9)
          go_ret
          cases o9 with
          | true =>
            obtain ⟨-, hl9, h9⟩ := HT9.out rfl
            exact SvPost.ok HS9.out ha9 (by omega) hdp (by rw [HXX.out]; simp [fin, h9])
          | false =>
            rcases HF9.out rfl with h9 | h9
            · cases h9
            · exact SvPost.bad HS9.out ha9 (by omega) hdp (.inr (by rw [HXX.out]; simp [fin, h9]))
end Go.Proofs.YtjoimponfeofkaaGreat

namespace Go.Proofs.YtjoimponfeofkaaGreat
open Go.RowKit

theorem fitss_all {ts : List VT} {k : Nat} : fitss ts k = true ↔ ∀ j, j < ts.length → (ga ts j).fits k = true := by
  induction ts with
  | nil => simp [fitss]
  | cons t ts ih =>
    simp only [fitss, Bool.and_eq_true, ih]
    constructor
    · rintro ⟨h1, h2⟩ j hj
      cases j with
      | zero => simpa [ga] using h1
      | succ j => have := h2 j (by simpa using hj); simpa [ga] using this
    · intro h
      exact ⟨by have := h 0 (by simp); simpa [ga] using this, fun j hj => by have := h (j + 1) (by simpa using hj); simpa [ga] using this⟩
theorem fits_mk (d i : Nat) (ps : List Nat) (ts : List VT) (k : Nat) : (VT.mk d i ps ts).fits k = (d == 0 || ((ts.isEmpty == (k == 0)) && fitss ts (k - 1))) := by simp [VT.fits]
theorem fits_no {d i : Nat} {ps : List Nat} {ts : List VT} {k : Nat} (hd : d ≠ 0) {j : Nat} (hj : j < ts.length) (h : (ga ts j).fits (k - 1) = false) : (VT.mk d i ps ts).fits k = false := by
  rw [fits_mk]
  have : fitss ts (k - 1) = false := by
    rw [← Bool.not_eq_true, fitss_all]
    intro h2
    rw [h2 j hj] at h; cases h
  simp [hd, this]
theorem fits_yes {d i : Nat} {ps : List Nat} {ts : List VT} {k : Nat} (he : ts.isEmpty = (k == 0)) (h : ∀ j, j < ts.length → (ga ts j).fits (k - 1) = true) : (VT.mk d i ps ts).fits k = true := by
  rw [fits_mk, fitss_all.2 h, he]; simp

set_option maxRecDepth 100000 in
set_option maxHeartbeats 2000000 in
theorem spFits (n : Nat) : ∀ (t : VT) (w : World) (S : Nat → Prop) (p k : Nat), t.dep < n → TreeR w S t p → k ≤ 1000 →
    Calls Tryz.prog 111 #[.pointer (some ⟨p, 0, none⟩), .int .i64 (k : Nat)] w (RetQ w (.bool (t.fits k))) := by
  induction n with
  | zero => intro t w S p k h; omega
  | succ n ih =>
    intro t w S p k hn h hk
    obtain ⟨d, i, ps, ts⟩ := t
    simp only [TreeR] at h
    obtain ⟨hS, hl, vp, vt, qs, c0, c1, c2, c3, c4, hp, ht, hts⟩ := h
    rw [dep_mk] at hn
    have IH := Lib.hid ih
    have HT := Lib.hid hts
    have hq : qs.length = ts.length := hts.len
    obtain ⟨A, c, rfl, hnc, hm, hx⟩ := ht
    rw [hq] at hnc hx c3
    unfold maxLen at hm
    have HX := Lib.hid hx
    have HQ := Lib.hid hq
    have HN := Lib.hid hn
    clear ih hts hx hp hq hn
    by_cases hd : d = 0
    · have e1 : ((d : Int) == 0) = true := by simp [hd]
      have HE : Hid ((VT.mk d i ps ts).fits k = true) := Lib.hid (by rw [fits_mk]; simp [hd])
      clear hd
      go_enter Tryz.func111, Tryz.ntmps111
      go_wp2_with fail
      go_ret
      exact ⟨by rw [HE.out]; rfl, rfl⟩
    have e1 : ((d : Int) == 0) = false := by simp [hd]
    have HD := Lib.hid hd
    clear hd
    by_cases he : ts.length = 0 ∧ k ≠ 0 ∨ ts.length ≠ 0 ∧ k = 0
    · have HE : Hid ((VT.mk d i ps ts).fits k = false) := Lib.hid (by
        rw [fits_mk]
        rcases he with ⟨h1, h2⟩ | ⟨h1, h2⟩
        · have := List.eq_nil_of_length_eq_zero h1
          subst this; simp [HD.out, h2]
        · have : ts.isEmpty = false := by cases ts with | nil => simp at h1 | cons => rfl
          simp [HD.out, h2, this])
      rcases he with ⟨h1, h2⟩ | ⟨h1, h2⟩
      · have e2 : ((ts.length : Int) == 0) = true := by simp [h1]
        have e3 : ((k : Int) == 0) = false := by simp [h2]
        clear h1 h2
        go_enter Tryz.func111, Tryz.ntmps111
        go_wp2_with fail
        go_ret
        exact ⟨by rw [HE.out]; rfl, rfl⟩
      · have e2 : ((ts.length : Int) == 0) = false := by simp [h1]
        have e3 : ((k : Int) == 0) = true := by simp [h2]
        clear h1 h2
        go_enter Tryz.func111, Tryz.ntmps111
        go_wp2_with fail
        go_ret
        exact ⟨by rw [HE.out]; rfl, rfl⟩
    obtain ⟨bb, e2, e3⟩ : ∃ bb : Bool, ((ts.length : Int) == 0) = bb ∧ ((k : Int) == 0) = bb := by
      by_cases h1 : ts.length = 0
      · have h2 : k = 0 := by omega
        exact ⟨true, by simp [h1], by simp [h2]⟩
      · have h2 : k ≠ 0 := by omega
        exact ⟨false, by simp [h1], by simp [h2]⟩
    have HI : Hid (ts.isEmpty = (k == 0)) := Lib.hid (by
      cases ts with
      | nil => simp at he ⊢; exact he.symm ▸ rfl
      | cons => simp at he ⊢; exact he)
    have HK : Hid (0 < ts.length → 0 < k) := Lib.hid fun h => by omega
    clear he
    cases bb
    all_goals
    go_enter Tryz.func111, Tryz.ntmps111
    go_wp2_with fail
    go_loop [26] (fun x => ∃ j : Nat, j ≤ ts.length ∧ x = .int .i64 j ∧ ∀ r, r < j → (ga ts r).fits (k - 1) = true) (fun x => ts.length - (intOf x).toNat)
    case atStart => exact ⟨0, Nat.zero_le _, rfl, fun r hr => absurd hr (Nat.not_lt_zero _)⟩
    case round =>
      obtain ⟨j, hj, rfl, hall⟩ := hrel
      have HA := Lib.hid hall
      clear hall
      by_cases hlt : j < ts.length
      · obtain ⟨b, off, rfl, -, hlb, hc⟩ := HX.out (by have := HQ.out; omega)
        have cj : w.cell? ⟨b, off + j, none⟩ = some (.pointer (some ⟨ga qs j, 0, none⟩)) := by
          have := hc j (by have := HQ.out; omega) 0 (by decide)
          simpa [encP] using this
        have i1 : (0 : Int) ≤ (j : Int) := by omega
        have i2 : (j : Int) < (ts.length : Int) := by omega
        have hk0 : 0 < k := HK.out (by omega)
        have ek : (k : Int) - 1 = ((k - 1 : Nat) : Int) := by omega
        have HC := Lib.hid (IH.out (ga ts j) w S (ga qs j) (k - 1) (by have := HN.out; have := deps_ge (ga_mem hlt); omega) (HT.out.at_ hlt) (by omega))
        have HEK := Lib.hid ek
        clear hc ek
        cases hf : (ga ts j).fits (k - 1) with
        | false =>
          have HE : Hid ((VT.mk d i ps ts).fits k = false) := Lib.hid (fits_no HD.out hlt hf)
          rw [hf] at HC
          clear hf
          go_wp2_with (go_at_call 111; rw [HEK.out]; refine HC.out.mono ?_; rintro e w1 ⟨rfl, rfl⟩)
          go_ret
          exact ⟨by rw [HE.out]; rfl, rfl⟩
        | true =>
          rw [hf] at HC
          have HF := Lib.hid hf
          clear hf
          go_wp2_with (go_at_call 111; rw [HEK.out]; refine HC.out.mono ?_; rintro e w1 ⟨rfl, rfl⟩)
          go_round
          case rel =>
            refine ⟨j + 1, by omega, by go_num, fun r hr => ?_⟩
            by_cases h3 : r = j
            · subst h3; exact HF.out
            · exact HA.out r (by omega)
          case measure => simp [intOf]; omega
      · obtain rfl : j = ts.length := by omega
        have HE : Hid ((VT.mk d i ps ts).fits k = true) := Lib.hid (fits_yes HI.out HA.out)
        go_wp2_with fail
        go_ret
        exact ⟨by rw [HE.out]; rfl, rfl⟩
end Go.Proofs.YtjoimponfeofkaaGreat

namespace Go.Proofs.YtjoimponfeofkaaGreat
open Go.RowKit

/-- what the parser gave: whether s is a view, and its tree -/
def PsV (B : Nat) (x : Option VT) (v : Value) (ok : Bool) (w' : World) : Prop := match x with
  | none => ok = false
  | some t => ok = true ∧ ∃ p, v = .pointer (some ⟨p, 0, none⟩) ∧ TreeR w' (fun b => B ≤ b) t p
def RetPs (w : World) (s : ByteArray) (e : Ending) (w' : World) : Prop := ∃ v ok, e = .returned (.tuple #[v, .bool ok]) ∧ Below w.heap.size w w' ∧ PsV w.heap.size (viewOf s) v ok w'
theorem RetPs.no {w w' : World} {s : ByteArray} {v : Value} (h : viewOf s = none) (hb : Below w.heap.size w w') : RetPs w s (.returned (.tuple #[v, .bool false])) w' := ⟨v, false, rfl, hb, by rw [h]; rfl⟩
theorem RetPs.yes {w w' : World} {s : ByteArray} {t : VT} {p : Nat} (h : viewOf s = some t) (hb : Below w.heap.size w w') (ht : TreeR w' (fun b => w.heap.size ≤ b) t p) : RetPs w s (.returned (.tuple #[.pointer (some ⟨p, 0, none⟩), .bool true])) w' :=
  ⟨_, true, rfl, hb, by rw [h]; exact ⟨rfl, p, rfl, ht⟩⟩
theorem viewOf_bad {s : ByteArray} (h : ∀ t, pv (s.size + 1) (from_ s 0) = some (t, []) → t.good = false) : viewOf s = none := by
  cases hv : viewOf s with
  | none => rfl
  | some t =>
    obtain ⟨h1, h2, h3, h4⟩ := viewOf_inv hv
    rw [h t h2] at h4; cases h4
theorem viewOf_ok {s : ByteArray} {t : VT} (hs : s.size ≤ 4000) (h : pv (s.size + 1) (from_ s 0) = some (t, [])) (hg : t.good = true) : viewOf s = some t := by
  unfold viewOf
  rw [if_pos hs, pg_some h hg]
theorem MovS.new {w w' : World} {s : ByteArray} {a : Nat} {ok : Bool} {o : Obj} (h : MovS (w.alloc o) w' w.heap.size s a ok) : Below w.heap.size w w' :=
  ((Below.refl w.heap.size w).alloc (Nat.le_refl _) o).grown h.2 (by simp) (fun k hk => by cases hk; exact Nat.le_refl _)

set_option maxRecDepth 100000 in
set_option maxHeartbeats 1000000 in
theorem spParse_any (s : ByteArray) (w : World) : Calls Tryz.prog 90 #[.string s] w (RetPs w s) := by
  by_cases hs : s.size ≤ 4000
  case neg =>
    have HN := Lib.hid (viewOf_long hs)
    have e1 : (4000 : Int) < (s.size : Int) := by omega
    clear hs
    go_enter Tryz.func90, Tryz.ntmps90
    go_wp2_with fail
    go_ret2
    exact RetPs.no HN.out ((Below.refl _ _).alloc (Nat.le_refl _) _)
  have e1 : ¬ (4000 : Int) < (s.size : Int) := by omega
  go_enter Tryz.func90, Tryz.ntmps90
  go_wp2_with fail
  refine (spView (s.size + 1) _ w.heap.size s 0 true (Blk.new w _ _) (by omega) hs (fun _ => by omega) (by omega)).mono ?_
  rintro e w1 ⟨p, a, o, dg, i, dp, vp, vt, rfl, ha, haa, hm, hp, hb, hdp, ht, hf⟩
  have HM := Lib.hid hm.new
  have HA := Lib.hid (by simp : w.heap.size ≤ (w.alloc (.cells #[.string s, .int .i64 (0 : Nat), .bool true] 150)).heap.size)
  have kr := hm.1.cell
  have kn := hb.cell
  clear hm hb
  cases o with
  | false =>
    have HN : Hid (viewOf s = none) := Lib.hid (viewOf_bad fun t h => by
      rcases hf rfl with h1 | h1
      · cases h1
      · rw [h1] at h; cases h)
    clear ht hf
    go_wp2_with fail
    go_ret2
    exact RetPs.no HN.out HM.out
  | true =>
    obtain ⟨-, hal, t, h1, h2, rfl, rfl⟩ := ht rfl
    have HW := Lib.hid (pv_wf h1)
    have HT := Lib.hid (h2.weak (S' := fun b => w.heap.size ≤ b) (fun b hb => by have := HA.out; omega))
    have HP := Lib.hid h1
    clear ht hf h1 h2
    by_cases hae : a = s.size
    case neg =>
      have e2 : ((a : Int) == (s.size : Int)) = false := by simp; omega
      have HN : Hid (viewOf s = none) := Lib.hid (viewOf_bad fun u h => by
        have := HP.out
        rw [h] at this
        simp only [Option.some.injEq, Prod.mk.injEq] at this
        exact absurd (from_nil this.2.symm) (by omega))
      clear hae
      go_wp2_with fail
      go_ret2
      exact RetPs.no HN.out HM.out
    subst hae
    have HP' : Hid (pv (s.size + 1) (from_ s 0) = some (t, [])) := Lib.hid (by rw [HP.out, from_end (Nat.le_refl _)])
    have e2 : ((s.size : Int) == (s.size : Int)) = true := by simp
    by_cases h80 : t.dep ≤ 80
    case neg =>
      have e3 : ¬ (t.dep : Int) ≤ 80 := by omega
      have e4 : decide (t.dep ≤ 80) = false := by simp; omega
      have HN : Hid (viewOf s = none) := Lib.hid (viewOf_bad fun u h => by
        rw [HP'.out] at h
        cases h
        simp [VT.good, h80])
      clear h80
      go_wp2_with fail
      go_ret2
      exact RetPs.no HN.out HM.out
    have e3 : (t.dep : Int) ≤ 80 := by omega
    have e4 : decide (t.dep ≤ 80) = true := by simp; omega
    have HG := Lib.hid (good_fits HW.out)
    have HC := Lib.hid (spFits (t.dep + 1) t w1 _ p t.dep (by omega) HT.out (by omega))
    cases hff : t.fits t.dep with
    | false =>
      have HN : Hid (viewOf s = none) := Lib.hid (viewOf_bad fun u h => by
        rw [HP'.out] at h
        cases h
        rw [← HG.out, hff, Bool.and_false])
      rw [hff] at HC
      clear hff h80
      go_wp2_with (go_at_call 111; refine HC.out.mono ?_; rintro e w2 ⟨rfl, rfl⟩)
      go_ret2
      exact RetPs.no HN.out HM.out
    | true =>
      have HY : Hid (viewOf s = some t) := Lib.hid (viewOf_ok hs HP'.out (by rw [← HG.out, hff, e4]; rfl))
      rw [hff] at HC
      clear hff h80
      go_wp2_with (go_at_call 111; refine HC.out.mono ?_; rintro e w2 ⟨rfl, rfl⟩)
      go_ret2
      exact RetPs.yes HY.out HM.out HT.out
end Go.Proofs.YtjoimponfeofkaaGreat

namespace Go.Proofs.YtjoimponfeofkaaGreat
open Go.RowKit
theorem l1In_b (n lo hi : Int) (b : Bool) (w : World) (h : inB n lo hi = b) :
    Calls Tryz.prog 47 #[.int .i64 n, .int .i64 lo, .int .i64 hi] w (RetQ w (.bool b)) := by subst h; exact l1In_any n lo hi w

set_option maxRecDepth 100000 in
set_option maxHeartbeats 4000000 in
theorem taGood_any {S : Nat → Prop} (v : Value) (D : Int) (rows : List RowT) (w : World) (h : SlR encR w S v rows) :
    Calls Tryz.prog 54 #[.agg #[.int .i64 D, v]] w (RetV w (.bool (tabB D rows))) := by
  have hbd := h.bound
  have HR := Lib.hid h
  obtain ⟨A, c, rfl, hnc, hm, hx⟩ := h
  unfold maxLen at hm
  have HX := Lib.hid hx
  clear hx
  have hb0 : Below w.heap.size w (w.alloc (.cells #[.int .i64 D, .slice A rows.length c] 35)) := (Below.refl _ _).alloc (Nat.le_refl _) _
  have HB0 := Lib.hid hb0
  have HK0 := Lib.hid (Blk.new w 35 #[.int .i64 D, .slice A rows.length c])
  clear hb0
  cases hD : inB D 0 4 with
  | false =>
    have CW := Lib.hid (fun W => l1In_b D 0 4 false W hD)
    have HN : Hid (tabB D rows = false) := Lib.hid (by simp [tabB, hD])
    clear hD
    go_enter Tryz.func54, Tryz.ntmps54
    go_wp2_with (go_at_call 47; refine (CW.out _).mono ?_; rintro e w1 ⟨rfl, rfl⟩)
    go_ret
    exact ⟨by rw [HN.out]; rfl, HB0.out⟩
  | true =>
  have CW := Lib.hid (fun W => l1In_b D 0 4 true W hD)
  have HD := Lib.hid hD
  clear hD
  by_cases hl : 60 < rows.length
  · have HN : Hid (tabB D rows = false) := Lib.hid (by simp [tabB, show ¬ rows.length ≤ 60 by omega])
    go_enter Tryz.func54, Tryz.ntmps54
    go_wp2_with (go_at_call 47; refine (CW.out _).mono ?_; rintro e w1 ⟨rfl, rfl⟩)
    go_ret
    exact ⟨by rw [HN.out]; rfl, HB0.out⟩
  go_enter Tryz.func54, Tryz.ntmps54
  go_wp2_with (go_at_call 47; refine (CW.out _).mono ?_; rintro e w1 ⟨rfl, rfl⟩)
  clear CW
  go_loopw [20] (fun i wr => ∃ k : Nat, k ≤ rows.length ∧ i = .int .i64 k ∧ (∀ j, j < k → rowB D (ga rows j) = true ∧ (0 < j → lessB (ga rows (j - 1)).1 (ga rows j).1 = true)) ∧
      Blk wr w.heap.size 35 #[.int .i64 D, .slice A rows.length c] ∧ Below w.heap.size w wr) (fun i _ => rows.length - (intOf i).toNat)
  case atStart => exact ⟨0, Nat.zero_le _, rfl, fun j hj => absurd hj (Nat.not_lt_zero _), HK0.out, HB0.out⟩
  case round =>
    obtain ⟨k, hk, rfl, hj, hblk, hbel⟩ := hrel
    have HJ := Lib.hid hj
    have HK := Lib.hid hblk
    have HB := Lib.hid hbel
    clear hj hblk hbel
    by_cases hlt : k < rows.length
    · obtain ⟨b, off, rfl, -, hbl, hc⟩ := HX.out (by omega)
      have hcr : ∀ j, j < rows.length → w.cell? ⟨b, off + j * 2, none⟩ = some (.string (ga rows j).1) ∧ w.cell? ⟨b, off + j * 2 + 1, none⟩ = some (.int .i64 (ga rows j).2) := fun j hj => by
        have h0 := hc j hj 0 (by decide)
        have h1 := hc j hj 1 (by decide)
        simp only [encR, Nat.add_zero, List.getElem?_cons_zero, List.getElem?_cons_succ] at h0 h1
        exact ⟨h0, h1⟩
      have HC := Lib.hid hcr
      have hzw : b < wr.heap.size := Nat.lt_of_lt_of_le hbl HB.out.size
      have hck := hcr k hlt
      have c0 : wr.cell? ⟨b, off + k * 2, none⟩ = some (.string (ga rows k).1) := (HB.out.cell (p := ⟨b, off + k * 2, none⟩) hbl).trans hck.1
      have c1 : wr.cell? ⟨b, off + k * 2 + 1, none⟩ = some (.int .i64 (ga rows k).2) := (HB.out.cell (p := ⟨b, off + k * 2 + 1, none⟩) hbl).trans hck.2
      have i0 : (0 : Int) ≤ (k : Int) := by omega
      have i1 : (k : Int) < (rows.length : Int) := by omega
      have hbw : Below wr.heap.size wr (wr.alloc (.cells #[.string (ga rows k).1, .int .i64 (ga rows k).2] 76)) := (Below.refl _ _).alloc (Nat.le_refl _) _
      have HBW := Lib.hid (Below.then_ HB.out (hbw.mono HB.out.size |> fun h => hbw))
      have HKW := Lib.hid (HK.out.below hbw)
      have HRW := Lib.hid (Blk.new wr 76 #[.string (ga rows k).1, .int .i64 (ga rows k).2])
      clear hc hcr hck hbw
      go_wp2_with fail
      generalize wr.alloc (.cells #[.string (ga rows k).1, .int .i64 (ga rows k).2] 76) = wa at *
      refine (spParse_any (ga rows k).1 wa).mono ?_
      rintro e w1 ⟨pv1, ok1, rfl, hb1, hres⟩
      have HB1 := Lib.hid (Below.then_ HBW.out hb1)
      have HK1 := Lib.hid (HKW.out.below hb1)
      have HR1 := Lib.hid (HRW.out.below hb1)
      clear hb1 c0 c1
      go_upto_region 7 with (fail)
      go_cut [70] (fun u W => ∃ bad : Bool, u = .bool bad ∧ (∃ n, W = w1.drewN n) ∧ bad = !(rowB D (ga rows k) && (decide (k = 0) || lessB (ga rows (k - 1)).1 (ga rows k).1)))
      case first =>
        have kt := HK1.out.cell
        have kr := HR1.out.cell
        cases hv : viewOf (ga rows k).1 with
        | none =>
          rw [hv] at hres
          obtain rfl : ok1 = false := hres
          have HE : Hid (rowB D (ga rows k) = false) := Lib.hid (by simp [rowB, hv])
          clear hv
          go_quiet (fail)
          go_wp2_with fail
          go_meet
          exact ⟨true, rfl, ⟨_, rfl⟩, by rw [HE.out]; rfl⟩
        | some t =>
          rw [hv] at hres
          obtain ⟨rfl, q, rfl, ht⟩ := hres
          obtain ⟨kq0, kq4, -, -⟩ := ht.deg
          have hin := inB_or (ga rows k).2
          have HV : Hid (rowB D (ga rows k) = ((decide ((t.dep : Int) = D) || t.deg == 0) && inB (ga rows k).2 0 99)) := Lib.hid (by simp [rowB, hv])
          clear hv ht
          by_cases hbc : (t.dep : Int) ≠ D ∧ t.deg ≠ 0
          · obtain ⟨hd, hg⟩ := hbc
            have e1 : ((t.dep : Int) != D) = true := by simp [hd]
            have e2 : decide (0 < t.deg) = true := by simp; omega
            have HE : Hid (rowB D (ga rows k) = false) := Lib.hid (by rw [HV.out]; simp [hd, hg])
            clear hd hg HV hin
            go_quiet (fail)
            go_wp2_with fail
            go_meet
            exact ⟨true, rfl, ⟨_, rfl⟩, by rw [HE.out]; rfl⟩
          have HE : Hid (rowB D (ga rows k) = inB (ga rows k).2 0 99) := Lib.hid (by
            rw [HV.out]
            have : (decide ((t.dep : Int) = D) || t.deg == 0) = true := by
              simp only [Bool.or_eq_true, decide_eq_true_eq, beq_iff_eq]; omega
            rw [this, Bool.true_and])
          have HBC := Lib.hid hbc
          clear HV hbc
          by_cases hd : (t.dep : Int) = D
          all_goals
            try have e1 : ((t.dep : Int) != D) = false := by simp [hd]
            try have e1 : ((t.dep : Int) != D) = true := by simp [hd]
            try have e2 : decide (0 < t.deg) = false := by have := HBC.out; simp; omega
            clear hd HBC
            cases hb : inB (ga rows k).2 0 99 with
            | false =>
              have CV := Lib.hid (fun W => l1In_b (ga rows k).2 0 99 false W hb)
              have HE2 := Lib.hid (HE.out.trans hb)
              clear hb
              go_quiet ((go_at_call 47; exact quietQ (CV.out _)))
              go_wp2_with fail
              go_meet
              exact ⟨true, rfl, ⟨_, rfl⟩, by rw [HE2.out]; rfl⟩
            | true =>
              have CV := Lib.hid (fun W => l1In_b (ga rows k).2 0 99 true W hb)
              have HE2 := Lib.hid (HE.out.trans hb)
              clear hb
              by_cases hk0 : k = 0
              · have e3 : decide (0 < k) = false := by simp [hk0]
                have HZ := Lib.hid hk0
                clear hk0
                go_quiet ((go_at_call 47; exact quietQ (CV.out _)))
                go_wp2_with fail
                go_meet
                exact ⟨false, rfl, ⟨_, rfl⟩, by rw [HE2.out, HZ.out]; rfl⟩
              · have e3 : decide (0 < k) = true := by simp; omega
                have hcp := (HC.out (k - 1) (by omega)).1
                have cp : w1.cell? ⟨b, off + (k - 1) * 2, none⟩ = some (.string (ga rows (k - 1)).1) := (HB1.out.cell (p := ⟨b, off + (k - 1) * 2, none⟩) hbl).trans hcp
                have j0 : (0 : Int) ≤ (k : Int) - 1 := by omega
                have j1 : (k : Int) - 1 < (rows.length : Int) := by omega
                have hw : IntKind.i64.wrap ((k : Int) - 1) = (k : Int) - 1 := IntWalk.i64_in _ (by omega)
                have hn : ((k : Int) - 1).toNat = k - 1 := by omega
                have HZ := Lib.hid hk0
                clear hk0 hcp
                cases hs : lessB (ga rows (k - 1)).1 (ga rows k).1 with
                | true =>
                  have es : (!Op.bytesLess (ga rows (k - 1)).1.toList (ga rows k).1.toList) = false := by unfold lessB at hs; rw [hs]; rfl
                  have HS := Lib.hid hs
                  clear hs
                  go_quiet ((go_at_call 47; exact quietQ (CV.out _)))
                  go_wp2_with fail
                  go_meet
                  exact ⟨false, rfl, ⟨_, rfl⟩, by rw [HE2.out, HS.out]; simp⟩
                | false =>
                  have es : (!Op.bytesLess (ga rows (k - 1)).1.toList (ga rows k).1.toList) = true := by unfold lessB at hs; rw [hs]; rfl
                  have HS := Lib.hid hs
                  clear hs
                  go_quiet ((go_at_call 47; exact quietQ (CV.out _)))
                  go_wp2_with fail
                  go_meet
                  exact ⟨true, rfl, ⟨_, rfl⟩, by rw [HE2.out, HS.out]; simp [HZ.out]⟩
      case rest =>
      obtain ⟨bad, rfl, ⟨n, rfl⟩, hbad⟩ := hcut
      have HB2 := Lib.hid (below_drewN HB1.out n)
      have HK2 := Lib.hid (HK1.out.below (below_drewN (Below.refl _ _) n))
      have HBAD := Lib.hid hbad
      clear hbad HB1 HK1 HR1 hres
      cases bad
      · go_wp2_with fail
        go_roundw
        case rel =>
          refine ⟨k + 1, by omega, by go_num, fun j hj => ?_, HK2.out, HB2.out⟩
          by_cases h3 : j = k
          · subst h3
            have := HBAD.out
            simp at this
            exact ⟨this.1, fun h0 => this.2 (by omega)⟩
          · exact HJ.out j (by omega)
        case measure => simp [intOf]; omega
      · have HN : Hid (tabB D rows = false) := Lib.hid (by
          rw [← Bool.not_eq_true, tabB_iff]
          rintro ⟨-, -, t3, t4⟩
          have h4 := t3 k hlt
          have := HBAD.out
          rw [h4] at this
          by_cases h5 : k = 0
          · simp [h5] at this
          · have h6 := asc_iff.1 t4 (k - 1) (by omega)
            rw [show k - 1 + 1 = k by omega] at h6
            rw [h6] at this; simp at this)
        go_wp2_with fail
        go_ret
        exact ⟨by rw [HN.out]; rfl, HB2.out⟩
    · obtain rfl : k = rows.length := by omega
      have HN : Hid (tabB D rows = true) := Lib.hid (by
        simp only [tabB, HD.out, Bool.true_and, Bool.and_eq_true, decide_eq_true_eq]
        exact ⟨by omega, HJ.out⟩)
      go_wp2_with fail
      go_ret
      exact ⟨by rw [HN.out]; rfl, HB.out⟩
end Go.Proofs.YtjoimponfeofkaaGreat

namespace Go.Proofs.YtjoimponfeofkaaGreat
open Go.RowKit

/-- the place of a view among rows -/
def FindAt (rows : List RowT) (s : ByteArray) (k : Nat) (is : Bool) : Prop :=
  k ≤ rows.length ∧ (∀ j, j < k → lessB (ga rows j).1 s = true) ∧ (k < rows.length → lessB (ga rows k).1 s = false) ∧ (is = true ↔ k < rows.length ∧ (ga rows k).1 = s)
theorem putR_find : ∀ {rows : List RowT} {r : RowT} {k : Nat} {is : Bool}, FindAt rows r.1 k is →
    putR r rows = if is = true then (if (ga rows k).2 = r.2 then some rows else none) else some (rows.take k ++ r :: rows.drop k)
  | [], r, k, is, h => by
    obtain ⟨h1, h2, h3, h4⟩ := h
    have : is = false := by rw [← Bool.not_eq_true, h4]; simp
    subst this
    simp at h1
    simp [putR, h1]
  | x :: xs, r, 0, is, h => by
    obtain ⟨h1, h2, h3, h4⟩ := h
    have h5 := h3 (by simp)
    simp only [ga, List.getD_cons_zero, List.length_cons] at h4 h5
    rw [putR, if_neg (by rw [h5]; simp)]
    by_cases he : x.1 = r.1
    · have : is = true := h4.2 ⟨by omega, he⟩
      subst this
      simp [he, ga]
    · have : is = false := by rw [← Bool.not_eq_true, h4]; simp [he]
      subst this
      simp [he]
  | x :: xs, r, k + 1, is, h => by
    obtain ⟨h1, h2, h3, h4⟩ := h
    have h0 := h2 0 (by omega)
    simp only [ga, List.getD_cons_zero] at h0
    have e : ∀ j, ga (x :: xs) (j + 1) = ga xs j := fun j => by simp [ga]
    have ih := putR_find (rows := xs) (r := r) (k := k) (is := is) ⟨by simpa using h1, fun j hj => by have := h2 (j + 1) (by omega); rwa [e] at this, fun hk => by have := h3 (by simpa using hk); rwa [e] at this, by rw [h4, e]; simp⟩
    rw [putR, if_pos h0, ih, e]
    cases is
    · simp
    · by_cases h6 : (ga xs k).2 = r.2 <;> simp [h6]

def RetFd (w : World) (rows : List RowT) (s : ByteArray) (e : Ending) (w' : World) : Prop := ∃ (k : Nat) (is : Bool), e = .returned (.tuple #[.int .i64 (k : Nat), .bool is]) ∧ FindAt rows s k is ∧ Below w.heap.size w w'

set_option maxRecDepth 100000 in
set_option maxHeartbeats 1000000 in
theorem taFind_any {S : Nat → Prop} (v : Value) (D : Int) (rows : List RowT) (s : ByteArray) (w : World) (h : SlR encR w S v rows) :
    Calls Tryz.prog 61 #[.agg #[.int .i64 D, v], .string s] w (RetFd w rows s) := by
  have hbd := h.bound
  have HR := Lib.hid h
  obtain ⟨A, c, rfl, hnc, hm, hx⟩ := h
  unfold maxLen at hm
  have HX := Lib.hid hx
  clear hx
  have hb0 : Below w.heap.size w (w.alloc (.cells #[.int .i64 D, .slice A rows.length c] 35)) := (Below.refl _ _).alloc (Nat.le_refl _) _
  have HB0 := Lib.hid hb0
  have hk0 := (Blk.new w 35 #[.int .i64 D, .slice A rows.length c]).cell
  clear hb0
  go_enter Tryz.func61, Tryz.ntmps61
  go_wp2_with fail
  generalize w.alloc (.cells #[.int .i64 D, .slice A rows.length c] 35) = w1 at *
  go_loop [6] (fun i => ∃ k : Nat, k ≤ rows.length ∧ i = .int .i64 k ∧ ∀ j, j < k → lessB (ga rows j).1 s = true) (fun i => rows.length - (intOf i).toNat)
  case atStart => exact ⟨0, Nat.zero_le _, rfl, fun j hj => absurd hj (Nat.not_lt_zero _)⟩
  case round =>
    obtain ⟨k, hk, rfl, hj⟩ := hrel
    have HJ := Lib.hid hj
    clear hj
    by_cases hlt : k < rows.length
    · obtain ⟨b, off, rfl, -, hbl, hc⟩ := HX.out (by omega)
      have c0 : w1.cell? ⟨b, off + k * 2, none⟩ = some (.string (ga rows k).1) := by
        rw [HB0.out.cell (p := ⟨b, off + k * 2, none⟩) hbl]; simpa [encR] using hc k hlt 0 (by decide)
      have i0 : (0 : Int) ≤ (k : Int) := by omega
      have i1 : (k : Int) < (rows.length : Int) := by omega
      clear hc
      cases hs : lessB (ga rows k).1 s with
      | true =>
        have es : Op.bytesLess (ga rows k).1.toList s.toList = true := hs
        have HS := Lib.hid hs
        clear hs
        go_wp2_with fail
        go_round
        case rel =>
          refine ⟨k + 1, by omega, by go_num, fun j hj => ?_⟩
          by_cases h3 : j = k
          · subst h3; exact HS.out
          · exact HJ.out j (by omega)
        case measure => simp [intOf]; omega
      | false =>
        have es : Op.bytesLess (ga rows k).1.toList s.toList = false := hs
        have HS := Lib.hid hs
        clear hs
        by_cases he : (ga rows k).1 = s
        · have e1 : ((ga rows k).1.toList == s.toList) = true := by simp [he]
          have HE := Lib.hid he
          clear he
          go_wp2_with fail
          go_quiet (fail)
          go_wp2_with fail
          go_ret2
          exact ⟨k, true, rfl, ⟨hk, HJ.out, fun _ => HS.out, by simp [hlt, HE.out]⟩, below_drewN HB0.out _⟩
        · have e1 : ((ga rows k).1.toList == s.toList) = false := by
            rw [beq_eq_false_iff_ne]
            intro h
            exact he (bytes_ext (by rw [← ByteArray.toList_eq, ← ByteArray.toList_eq]; exact h))
          have HE := Lib.hid he
          clear he
          go_wp2_with fail
          go_quiet (fail)
          go_wp2_with fail
          go_ret2
          exact ⟨k, false, rfl, ⟨hk, HJ.out, fun _ => HS.out, by simp [HE.out]⟩, below_drewN HB0.out _⟩
    · obtain rfl : k = rows.length := by omega
      go_wp2_with fail
      go_quiet (fail)
      go_wp2_with fail
      go_ret2
      exact ⟨rows.length, false, rfl, ⟨hk, HJ.out, fun h => absurd h (Nat.lt_irrefl _), by simp⟩, below_drewN HB0.out _⟩
end Go.Proofs.YtjoimponfeofkaaGreat
