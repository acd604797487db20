/- The reference's reader of views: what it gives, whether it is still well or not. -/
import Derived.Test.YtclkboemgneojaaVs1
import Derived.Test.YtclkboemgneojaaVi3
import Derived.Test.YtclkboemgneojaaL1m
import Derived.Deep.DeepCutAuto
namespace Go.Proofs.Ytclkboemgneojaa
open Go.RowKit

theorem spDigit_u (w : World) (gr : Nat) (s : ByteArray) (a m : Nat) (o : Bool) (h : Blk w gr 159 #[.string s, .int .i64 (a : Nat), .bool o]) (ha : a ≤ s.size) (hs : s.size ≤ 4000) :
    Calls Try.prog 172 #[.pointer (some ⟨gr, 0, none⟩), .int .i64 (m : Nat)] w fun e w' => ∃ (d a' : Nat) (o' : Bool), e = .returned (.int .i64 (d : Nat)) ∧ d ≤ m ∧ a' ≤ s.size ∧ a ≤ a' ∧ MovS w w' gr s a' o' ∧
      (o' = true → o = true ∧ a < a' ∧ dgt m (from_ s a) = some (d, from_ s a')) ∧ (o' = false → o = false ∨ dgt m (from_ s a) = none) := by
  cases hd : dgt m (from_ s a) with
  | none =>
    refine (spDigit_no w gr s a m o h ha hd).mono ?_
    rintro e w' ⟨rfl, hm⟩
    exact ⟨0, a, false, rfl, by omega, ha, Nat.le_refl _, hm, (fun h => by cases h), fun _ => .inr rfl⟩
  | some x =>
    obtain ⟨d, r⟩ := x
    obtain ⟨h1, h2, h3, h4⟩ := dgt_from hd
    refine (spDigit_yes w gr s a m d o r h hs hd).mono ?_
    rintro e w' ⟨rfl, hm⟩
    exact ⟨d, a + 1, o, rfl, h3, by omega, by omega, hm, fun ho => ⟨ho, by omega, by rw [h4]⟩, fun ho => .inl ho⟩
theorem spSign_u (z : Int) (b : UInt8) (hz : z = (b.toNat : Nat)) (w : World) (gr : Nat) (s : ByteArray) (a : Nat) (o : Bool) (h : Blk w gr 159 #[.string s, .int .i64 (a : Nat), .bool o]) (ha : a ≤ s.size) (hs : s.size ≤ 4000) :
    Calls Try.prog 173 #[.pointer (some ⟨gr, 0, none⟩), .int .u8 z] w fun e w' => ∃ (a' : Nat) (o' : Bool), e = .returned (.tuple #[]) ∧ a' ≤ s.size ∧ a ≤ a' ∧ MovS w w' gr s a' o' ∧
      (o' = true → o = true ∧ a < a' ∧ sgn b (from_ s a) = some (from_ s a')) ∧ (o' = false → o = false ∨ sgn b (from_ s a) = none) := by
  cases hd : sgn b (from_ s a) with
  | none =>
    refine (spSign_no z b hz w gr s a o h ha hd).mono ?_
    rintro e w' ⟨rfl, hm⟩
    exact ⟨a, false, rfl, ha, Nat.le_refl _, hm, (fun h => by cases h), fun _ => .inr rfl⟩
  | some r =>
    obtain ⟨h1, h2, h4⟩ := sgn_from hd
    refine (spSign_yes z b hz w gr s a o r h hs hd).mono ?_
    rintro e w' ⟨rfl, hm⟩
    exact ⟨a + 1, o, rfl, by omega, by omega, hm, fun ho => ⟨ho, by omega, by rw [h4]⟩, fun ho => .inl ho⟩

/-- what the reference's reader of views gives -/
def SvPost (f : Nat) (w : World) (gr : Nat) (s : ByteArray) (a : Nat) (o : Bool) (e : Ending) (w' : World) : Prop :=
  ∃ (p a' : Nat) (o' : Bool) (dg i dp : Nat) (vp vt : Value), e = .returned (.pointer (some ⟨p, 0, none⟩)) ∧ a' ≤ s.size ∧ a ≤ a' ∧ MovS w w' gr s a' o' ∧ w.heap.size ≤ p ∧
    Blk w' p 156 #[.int .i64 (dg : Nat), .int .i64 (i : Nat), vp, vt, .int .i64 (dp : Nat)] ∧ dp ≤ f ∧
    (o' = true → o = true ∧ a < a' ∧ ∃ t, pv f (from_ s a) = some (t, from_ s a') ∧ TreeR w' (fun b => w.heap.size ≤ b) t p ∧ dg = t.deg ∧ dp = t.dep) ∧ (o' = false → o = false ∨ pv f (from_ s a) = none)
/-- the reference's node -/
abbrev SvSt (w : World) (gr p : Nat) (s : ByteArray) (a : Int) (o : Bool) (d i dp : Int) (vp0 vt0 vp vt : Value) (ps qs rs : List Nat) (ts : List VT) (wr : World) : Prop := NodeSt 159 156 85 w gr p #[.string s, .int .i64 a, .bool o] d i dp vp0 vt0 vp vt ps qs rs ts wr
theorem NodeSt.mvS {TN TP : TypeId} {w wr : World} {gr p : Nat} {s : ByteArray} {a : Nat} {o : Bool} {d i dp : Int} {vp0 vt0 vp vt : Value} {ps qs rs : List Nat} {ts : List VT} (h : NodeSt 159 TN TP w gr p #[.string s, .int .i64 (a : Nat), .bool o] d i dp vp0 vt0 vp vt ps qs rs ts wr) : MovS w wr gr s a o := ⟨h.rdr, h.grw⟩
/-- the loop over the parts -/
def SvRel (f : Nat) (w : World) (gr p : Nat) (s : ByteArray) (a a3 d i : Nat) (c : Value) (wr : World) : Prop :=
  ∃ (k a1 : Nat) (o : Bool) (dp : Nat) (vp vt : Value) (ps qs rs : List Nat) (ts : List VT), c = .int .i64 k ∧ k ≤ d ∧ a1 ≤ s.size ∧ a3 ≤ a1 ∧ dp ≤ f + 1 ∧ ps.length = k ∧ qs.length = k ∧
    SvSt w gr p s (a1 : Nat) o d i dp vp vt vp vt ps qs rs ts wr ∧
    (o = true → rs = qs ∧ ts.length = k ∧ dp = deps ts ∧ pks (pv f) d 40 (from_ s a3) = pre ps ts (pks (pv f) (d - k) (if k = 0 then 40 else 44) (from_ s a1))) ∧ (o = false → pv (f + 1) (from_ s a) = none)
theorem ptrTS : Nonempty (ElemT Try.prog encP 154 85) := ElemT.of (z := .pointer none) (n := 1) (bytes := 8) Try.underlying154 (by kernel_rfl) rfl rfl (by omega)
theorem SvPost.bad {f : Nat} {w wr : World} {gr p : Nat} {s : ByteArray} {a a' : Nat} {o : Bool} {dg i dp : Nat} {vp0 vt0 vp vt : Value} {ps qs rs : List Nat} {ts : List VT} (h : SvSt w gr p s (a' : Nat) false dg i dp vp0 vt0 vp vt ps qs rs ts wr) (ha : a' ≤ s.size) (haa : a ≤ a') (hdp : dp ≤ f) (hb : o = false ∨ pv f (from_ s a) = none) :
    SvPost f w gr s a o (.returned (.pointer (some ⟨p, 0, none⟩))) wr :=
  ⟨p, a', false, dg, i, dp, vp0, vt0, rfl, ha, haa, h.mvS, h.hp, h.node, hdp, (fun h => by cases h), fun _ => hb⟩
theorem SvPost.ok {f : Nat} {w wr : World} {gr p : Nat} {s : ByteArray} {a a' : Nat} {d i : Nat} {vp vt : Value} {ps qs : List Nat} {ts : List VT} (h : SvSt w gr p s (a' : Nat) true d i (deps ts : Nat) vp vt vp vt ps qs qs ts wr) (ha : a' ≤ s.size) (haa : a < a') (hdp : deps ts ≤ f) (hb : pv f (from_ s a) = some (.mk d i ps ts, from_ s a')) :
    SvPost f w gr s a true (.returned (.pointer (some ⟨p, 0, none⟩))) wr :=
  ⟨p, a', true, d, i, deps ts, vp, vt, rfl, ha, by omega, h.mvS, h.hp, h.node, hdp, fun _ => ⟨rfl, haa, _, hb, NodeSt.tree h, rfl, dep_mk.symm⟩, fun h => by cases h⟩
theorem MovS.drew_ {w w' : World} {gr : Nat} {s : ByteArray} {a : Nat} {o : Bool} (h : MovS w w' gr s a o) (n : Nat) : MovS w (w'.drewN n) gr s a o := h.trans (MovS.same h.1 n)
theorem NodeSt.drewN_ {TR TN TP : TypeId} {w wr : World} {gr p : Nat} {rd : Array Value} {d i dp : Int} {vp0 vt0 vp vt : Value} {ps qs rs : List Nat} {ts : List VT} (h : NodeSt TR TN TP w gr p rd d i dp vp0 vt0 vp vt ps qs rs ts wr) (n : Nat) : NodeSt TR TN TP w gr p rd d i dp vp0 vt0 vp vt ps qs rs ts (wr.drewN n) := h.below (below_drewN (Below.refl _ _) n)

theorem sv_none {p : List UInt8 → Option (VT × List UInt8)} {m j dg a1 a4 a5 a6 a8 : Nat} {sep : UInt8} {s : ByteArray} {o4 o5 o6 o8 o9 : Bool}
    (t4 : o4 = true → sgn sep (from_ s a1) = some (from_ s a4)) (f4 : o4 = false → sgn sep (from_ s a1) = none)
    (t5 : o5 = true → o4 = true ∧ dgt 5 (from_ s a4) = some (j, from_ s a5)) (f5 : o5 = false → o4 = false ∨ dgt 5 (from_ s a4) = none)
    (t6 : o6 = true → o5 = true ∧ sgn 58 (from_ s a5) = some (from_ s a6)) (f6 : o6 = false → o5 = false ∨ sgn 58 (from_ s a5) = none)
    (t8 : o8 = true → o6 = true ∧ ∃ t, p (from_ s a6) = some (t, from_ s a8) ∧ dg = t.deg) (f8 : o8 = false → o6 = false ∨ p (from_ s a6) = none)
    (h9 : o9 = (o8 && decide (j < dg))) (hf : o9 = false) : pks p (m + 1) sep (from_ s a1) = none := by
  cases o4 with
  | false => exact pks_none1 _ (f4 rfl)
  | true =>
    have k4 := t4 rfl
    cases o5 with
    | false =>
      rcases f5 rfl with h | h
      · cases h
      · exact pks_none2 _ k4 h
    | true =>
      have k5 := (t5 rfl).2
      cases o6 with
      | false =>
        rcases f6 rfl with h | h
        · cases h
        · exact pks_none3 _ k4 k5 h
      | true =>
        have k6 := (t6 rfl).2
        cases o8 with
        | false =>
          rcases f8 rfl with h | h
          · cases h
          · exact pks_none4 _ k4 k5 k6 h
        | true =>
          obtain ⟨-, t, h, hd⟩ := t8 rfl
          refine pks_none5 _ k4 k5 k6 h ?_
          rw [hf] at h9
          simp at h9
          omega

set_option maxRecDepth 100000 in
set_option maxHeartbeats 2000000 in
theorem spView_false (f : Nat) (w : World) (gr : Nat) (s : ByteArray) (a : Nat) (hb : Blk w gr 159 #[.string s, .int .i64 (a : Nat), .bool false]) (ha : a ≤ s.size) (hs : s.size ≤ 4000) :
    Calls Try.prog 124 #[.pointer (some ⟨gr, 0, none⟩)] w (SvPost f w gr s a false) := by
  have hgl : gr < w.heap.size := hb.lt
  have HB := Lib.hid hb
  clear hb
  go_enter Try.func124, Try.ntmps124
  go_wp2_with fail
  refine (spDigit_u w gr s a 6 false HB.out ha hs).mono ?_
  rintro e w1 ⟨d, a1, o1, rfl, hd6, ha1, haa1, hm1, ht1, hf1⟩
  have hz1 : w.heap.size ≤ w1.heap.size := hm1.2.size
  have hst : SvSt w gr w1.heap.size s (a1 : Nat) o1 d 0 0 (.slice none 0 0) (.slice none 0 0) (.slice none 0 0) (.slice none 0 0) [] [] [] [] (w1.alloc (.cells #[.int .i64 d, .int .i64 0, .slice none 0 0, .slice none 0 0, .int .i64 0] 156)) := NodeSt.new hm1.1 hgl hm1.2 d
  have HS := Lib.hid hst
  have HT1 := Lib.hid ht1
  have HF1 := Lib.hid hf1
  clear hm1 hst ht1 hf1
  obtain ⟨p, hp⟩ : ∃ p, p = w1.heap.size := ⟨_, rfl⟩
  have hpz : w.heap.size ≤ p := by omega
  go_wp2_with fail
  rw [← hp] at HS ⊢
  clear hp
  generalize w1.alloc _ = wa at *
  refine (spSign_u 46 46 rfl wa gr s a1 o1 HS.out.rdr ha1 hs).mono ?_
  rintro e w2 ⟨a2, o2, rfl, ha2, haa2, hm2, ht2, hf2⟩
  have HS2 := Lib.hid (HS.out.moved hm2.1 hm2.2)
  have HT2 := Lib.hid ht2
  have HF2 := Lib.hid hf2
  clear hm2 ht2 hf2 HS
  go_wp2_with fail
  refine (spDigit_u w2 gr s a2 9 o2 HS2.out.rdr ha2 hs).mono ?_
  rintro e w3 ⟨i, a3, o3, rfl, hi9, ha3, haa3, hm3, ht3, hf3⟩
  have HS3 := Lib.hid (HS2.out.moved hm3.1 hm3.2)
  have HS4 := Lib.hid (HS3.out.put1 (i : Int))
  have HT3 := Lib.hid ht3
  have HF3 := Lib.hid hf3
  have hc3 := HS3.out.node.cell
  have hf3' := HS3.out.node.free
  have hr3 := HS3.out.rdr.cell
  clear hm3 ht3 hf3 HS2
  cases o3 with
  | true => exact absurd (HT1.out (HT2.out (HT3.out rfl).1).1).1 (by simp)
  | false =>
    go_wp2_with fail
    go_quiet (fail)
    go_wp2_with fail
    go_ret
    exact SvPost.bad (dp := 0) (HS4.out.drewN_ _) ha3 (by omega) (Nat.zero_le _) (.inl rfl)

set_option maxRecDepth 100000 in
set_option maxHeartbeats 4000000 in
theorem spView (f : Nat) : ∀ (w : World) (gr : Nat) (s : ByteArray) (a : Nat) (o : Bool), Blk w gr 159 #[.string s, .int .i64 (a : Nat), .bool o] → a ≤ s.size → s.size ≤ 4000 → (o = true → s.size - a < f) → f ≤ 8000 →
    Calls Try.prog 124 #[.pointer (some ⟨gr, 0, none⟩)] w (SvPost f w gr s a o) := by
  induction f with
  | zero =>
    intro w gr s a o hb ha hs hf _
    cases o with
    | true => exact absurd (hf rfl) (by omega)
    | false => exact spView_false 0 w gr s a hb ha hs
  | succ f ih =>
    intro w gr s a o hb ha hs hf hf8
    cases o with
    | false => exact spView_false (f + 1) w gr s a hb ha hs
    | true =>
    have hf := hf rfl
    have HB := Lib.hid hb
    have IH := Lib.hid ih
    have hgl : gr < w.heap.size := hb.lt
    clear hb ih
    go_enter Try.func124, Try.ntmps124
    go_wp2_with fail
    refine (spDigit_u w gr s a 6 true HB.out ha hs).mono ?_
    rintro e w1 ⟨d, a1, o1, rfl, hd6, ha1, haa1, hm1, ht1, hf1⟩
    have hz1 : w.heap.size ≤ w1.heap.size := hm1.2.size
    have hst : SvSt w gr w1.heap.size s (a1 : Nat) o1 d 0 0 (.slice none 0 0) (.slice none 0 0) (.slice none 0 0) (.slice none 0 0) [] [] [] [] (w1.alloc (.cells #[.int .i64 d, .int .i64 0, .slice none 0 0, .slice none 0 0, .int .i64 0] 156)) := NodeSt.new hm1.1 hgl hm1.2 d
    have HS := Lib.hid hst
    have HT1 := Lib.hid ht1
    have HF1 := Lib.hid hf1
    clear hm1 hst ht1 hf1
    obtain ⟨p, hp⟩ : ∃ p, p = w1.heap.size := ⟨_, rfl⟩
    have hpz : w.heap.size ≤ p := by omega
    go_wp2_with fail
    rw [← hp] at HS ⊢
    clear hp
    generalize w1.alloc _ = wa at *
    refine (spSign_u 46 46 rfl wa gr s a1 o1 HS.out.rdr ha1 hs).mono ?_
    rintro e w2 ⟨a2, o2, rfl, ha2, haa2, hm2, ht2, hf2⟩
    have HS2 := Lib.hid (HS.out.moved hm2.1 hm2.2)
    have HT2 := Lib.hid ht2
    have HF2 := Lib.hid hf2
    clear hm2 ht2 hf2 HS
    go_wp2_with fail
    refine (spDigit_u w2 gr s a2 9 o2 HS2.out.rdr ha2 hs).mono ?_
    rintro e w3 ⟨i, a3, o3, rfl, hi9, ha3, haa3, hm3, ht3, hf3⟩
    have HS3 := Lib.hid (HS2.out.moved hm3.1 hm3.2)
    have HS4 := Lib.hid (HS3.out.put1 (i : Int))
    have HT3 := Lib.hid ht3
    have HF3 := Lib.hid hf3
    have hc3 := HS3.out.node.cell
    have hf3' := HS3.out.node.free
    have hr3 := HS3.out.rdr.cell
    clear hm3 ht3 hf3 HS2
    cases o3 with
    | false =>
      have HN : Hid (pv (f + 1) (from_ s a) = none) := Lib.hid (by
        rcases HF3.out rfl with h3 | h3
        · rcases HF2.out h3 with h2 | h2
          · rcases HF1.out h2 with h1 | h1
            · cases h1
            · exact pv_no1 h1
          · cases o1 with
            | true => exact pv_no2 (HT1.out rfl).2.2 h2
            | false =>
              rcases HF1.out rfl with h1 | h1
              · cases h1
              · exact pv_no1 h1
        · cases o2 with
          | true => exact pv_no3 (HT1.out (HT2.out rfl).1).2.2 (HT2.out rfl).2.2 h3
          | false =>
            rcases HF2.out rfl with h2 | h2
            · rcases HF1.out h2 with h1 | h1
              · cases h1
              · exact pv_no1 h1
            · cases o1 with
              | true => exact pv_no2 (HT1.out rfl).2.2 h2
              | false =>
                rcases HF1.out rfl with h1 | h1
                · cases h1
                · exact pv_no1 h1)
      go_wp2_with fail
      go_quiet (fail)
      go_wp2_with fail
      go_ret
      exact SvPost.bad (dp := 0) (HS4.out.drewN_ _) ha3 (by omega) (Nat.zero_le _) (.inr HN.out)
    | true =>
    obtain ⟨rfl, hlt3, h3⟩ := HT3.out rfl
    obtain ⟨rfl, hlt2, h2⟩ := HT2.out rfl
    obtain ⟨-, hlt1, h1⟩ := HT1.out rfl
    have H1 := Lib.hid h1
    have H2 := Lib.hid h2
    have H3 := Lib.hid h3
    clear h1 h2 h3 HT1 HT2 HT3 HF1 HF2 HF3
    by_cases hd : d = 0
    · subst hd
      have HN := Lib.hid (pv_leaf (f := f) H1.out H2.out H3.out (.inl rfl))
      go_wp2_with fail
      go_quiet (fail)
      go_wp2_with fail
      go_ret
      exact SvPost.ok (ts := []) (ps := []) (qs := []) (HS4.out.drewN_ _) ha3 (by omega) (Nat.zero_le _) HN.out
    have hde : ((d : Int) == 0) = false := by simp [hd]
    cases h4 : sgn 40 (from_ s a3) with
    | none =>
      have HN := Lib.hid (pv_leaf (f := f) H1.out H2.out H3.out (.inr h4))
      by_cases hl : a3 < s.size
      · have hne := sgn_from_none h4 hl
        have e1 : ((a3 : Int) == (s.size : Int)) = false := by simp; omega
        have e2 : ((s[a3].toNat : Int) != 40) = true := by
          simp only [bne_iff_ne, ne_eq]
          intro e
          exact hne (UInt8.toNat_inj.1 (by have : (40 : UInt8).toNat = 40 := rfl; omega))
        have i1 : (0 : Int) ≤ (a3 : Int) := by omega
        have i2 : (a3 : Int) < (s.size : Int) := by omega
        clear h4 hne
        go_wp2_with fail
        go_quiet (fail)
        go_wp2_with fail
        go_ret
        exact SvPost.ok (ts := []) (ps := []) (qs := []) (HS4.out.drewN_ _) ha3 (by omega) (Nat.zero_le _) HN.out
      · obtain rfl : a3 = s.size := by omega
        have e1 : ((s.size : Int) == (s.size : Int)) = true := by simp
        clear h4 hl
        go_wp2_with fail
        go_quiet (fail)
        go_wp2_with fail
        go_ret
        exact SvPost.ok (ts := []) (ps := []) (qs := []) (HS4.out.drewN_ _) ha3 (by omega) (Nat.zero_le _) HN.out
    | some l4 =>
    obtain ⟨hl4, hb4, hr4⟩ := sgn_from h4
    have HX := Lib.hid (pv_kids (f := f) H1.out H2.out H3.out hd h4)
    have e1 : ((a3 : Int) == (s.size : Int)) = false := by simp; omega
    have e2 : ((s[a3].toNat : Int) != 40) = false := by rw [hb4]; rfl
    have i1 : (0 : Int) ≤ (a3 : Int) := by omega
    have i2 : (a3 : Int) < (s.size : Int) := by omega
    clear h4 hb4 hr4
    go_wp2_with fail
    go_quiet (fail)
    go_wp2_with fail
    have HS5 := Lib.hid (HS4.out.drewN_ nq)
    clear HS4 HS3 hc3 hf3' hr3 e1
    generalize (World.setCell w3 ⟨p, 1, none⟩ (.int .i64 (i : Nat))).drewN nq = w5 at *
    go_loopw [4] (fun c wr => SvRel f w gr p s a a3 d i c wr) (fun c _ => d - (intOf c).toNat)
    case atStart => exact ⟨0, a3, true, 0, _, _, [], [], [], [], rfl, Nat.zero_le _, ha3, Nat.le_refl _, Nat.zero_le _, rfl, rfl, HS5.out, fun _ => ⟨rfl, rfl, rfl, (pre_nil _).symm⟩, fun h => by cases h⟩
    case round =>
      clear HS5
      obtain ⟨k, a1, o, dp, vp, vt, ps, qs, rs, ts, rfl, hk, hal, haf, hdp, hpl, hql, hst, htr, hfa⟩ := hrel
      have HS := Lib.hid hst
      have HT := Lib.hid htr
      have HF := Lib.hid hfa
      have hc := hst.node.cell
      have hr := hst.rdr.cell
      clear hst htr hfa
      by_cases hlt : k < d ∧ o = true
      · obtain ⟨hlt, rfl⟩ := hlt
        obtain ⟨m, hm⟩ : ∃ m, d - k = m + 1 := ⟨d - k - 1, by omega⟩
        obtain ⟨hrq, htl, hdd, hx⟩ := HT.out rfl
        subst hrq hdd
        obtain ⟨sep, hsep⟩ : ∃ sep : UInt8, sep = if k = 0 then 40 else 44 := ⟨_, rfl⟩
        have HXX : Hid (pv (f + 1) (from_ s a) = fin d i (pre ps ts (pks (pv f) (m + 1) sep (from_ s a1)))) := Lib.hid (by rw [HX.out, hx, hm, ← hsep])
        have HX1 : Hid (pks (pv f) d 40 (from_ s a3) = pre ps ts (pks (pv f) (m + 1) sep (from_ s a1))) := Lib.hid (by rw [hx, hm, ← hsep])
        have HM := Lib.hid hm
        have HSEP := Lib.hid hsep
        clear hm hx hsep HT HF
        go_upto_if 70 with (fail)
        go_cut [] (fun W => ∃ (a4 : Nat) (o4 : Bool), a4 ≤ s.size ∧ a1 ≤ a4 ∧ SvSt w gr p s (a4 : Nat) o4 d i (deps ts : Nat) vp vt vp vt ps rs rs ts W ∧ (o4 = true → sgn sep (from_ s a1) = some (from_ s a4)) ∧ (o4 = false → sgn sep (from_ s a1) = none))
        case first =>
          by_cases hk0 : k = 0
          · have e1 : ((k : Int) == 0) = true := by simp [hk0]
            have C4 := Lib.hid (spSign_u 40 40 rfl wr gr s a1 true HS.out.rdr hal hs)
            have HE : Hid (sep = 40) := Lib.hid (by rw [HSEP.out, if_pos hk0])
            clear hk0
            go_wp2_with (go_at_call 173; refine C4.out.mono ?_; rintro e w4 ⟨a4, o4, rfl, ha4, haa4, hm4, ht4, hf4⟩; have HS4 := Lib.hid (HS.out.moved hm4.1 hm4.2); have HT4 := Lib.hid ht4; have HF4 := Lib.hid hf4; clear hm4 ht4 hf4)
            go_meet
            exact ⟨a4, o4, ha4, haa4, HS4.out, fun h => by rw [HE.out]; exact (HT4.out h).2.2, fun h => by rw [HE.out]; rcases HF4.out h with h | h; cases h; exact h⟩
          · have e1 : ((k : Int) == 0) = false := by simp [hk0]
            have C4 := Lib.hid (spSign_u 44 44 rfl wr gr s a1 true HS.out.rdr hal hs)
            have HE : Hid (sep = 44) := Lib.hid (by rw [HSEP.out, if_neg hk0])
            clear hk0
            go_wp2_with (go_at_call 173; refine C4.out.mono ?_; rintro e w4 ⟨a4, o4, rfl, ha4, haa4, hm4, ht4, hf4⟩; have HS4 := Lib.hid (HS.out.moved hm4.1 hm4.2); have HT4 := Lib.hid ht4; have HF4 := Lib.hid hf4; clear hm4 ht4 hf4)
            go_meet
            exact ⟨a4, o4, ha4, haa4, HS4.out, fun h => by rw [HE.out]; exact (HT4.out h).2.2, fun h => by rw [HE.out]; rcases HF4.out h with h | h; cases h; exact h⟩
        case rest =>
        obtain ⟨a4, o4, ha4, haa4, hst4, ht4, hf4⟩ := hcut
        have HS4 := Lib.hid hst4
        have HT4 := Lib.hid ht4
        have HF4 := Lib.hid hf4
        clear hst4 ht4 hf4 HS hc hr
        go_wp2_with fail
        refine (spDigit_u _ gr s a4 5 o4 HS4.out.rdr ha4 hs).mono ?_
        rintro e w5 ⟨j, a5, o5, rfl, hj5, ha5, haa5, hm5, ht5, hf5⟩
        have HS5 := Lib.hid (HS4.out.moved hm5.1 hm5.2)
        have HT5 := Lib.hid ht5
        have HF5 := Lib.hid hf5
        clear hm5 ht5 hf5 HS4
        go_wp2_with fail
        refine (spSign_u 58 58 rfl w5 gr s a5 o5 HS5.out.rdr ha5 hs).mono ?_
        rintro e w6 ⟨a6, o6, rfl, ha6, haa6, hm6, ht6, hf6⟩
        have HS6 := Lib.hid (HS5.out.moved hm6.1 hm6.2)
        have HT6 := Lib.hid ht6
        have HF6 := Lib.hid hf6
        clear hm6 ht6 hf6 HS5
        go_wp2_with fail
        refine (IH.out w6 gr s a6 o6 HS6.out.rdr ha6 hs (fun _ => by omega) (by omega)).mono ?_
        rintro e w8 ⟨p8, a8, o8, dg, i8, dp8, vp8, vt8, rfl, ha8, haa8, hm8, hp8, hb8, hdp8, ht8, hf8⟩
        obtain ⟨rs', ts', hst8, hor8⟩ : ∃ rs' ts', SvSt w gr p s (a8 : Nat) o8 d i (deps ts : Nat) vp vt vp vt ps rs rs' ts' w8 ∧ (o8 = true → rs' = rs ++ [p8] ∧ ∃ t, ts' = ts ++ [t] ∧ pv f (from_ s a6) = some (t, from_ s a8) ∧ dg = t.deg ∧ dp8 = t.dep) := by
          cases o8 with
          | false => exact ⟨rs, ts, HS6.out.moved hm8.1 hm8.2, fun h => by cases h⟩
          | true =>
            obtain ⟨-, -, t, h1, h2, h3, h4⟩ := ht8 rfl
            exact ⟨rs ++ [p8], ts ++ [t], HS6.out.part hm8.1 hm8.2 h2, fun _ => ⟨rfl, t, rfl, h1, h3, h4⟩⟩
        have HS8 := Lib.hid hst8
        have HO8 := Lib.hid hor8
        have HT8 := Lib.hid ht8
        have HF8 := Lib.hid hf8
        have HB8 := Lib.hid hb8
        have hk8 := hb8.cell
        have hn8 := HS8.out.node.cell
        have hr8 := HS8.out.rdr.cell
        have hg8 := HS8.out.rdr.free
        obtain ⟨hpp1, hpp2⟩ : p8 ≠ p ∧ p8 ≠ gr := ⟨by have := HS6.out.node.lt; omega, by have := HS6.out.rdr.lt; omega⟩
        have HV1 : Hid (∀ g, vp.ownBlock = some g → g ≠ p8) := Lib.hid fun g hg => by have := (HS6.out.own1.blk g hg).2; omega
        have HV2 : Hid (∀ g, vt.ownBlock = some g → g ≠ p8) := Lib.hid fun g hg => by have := (HS6.out.own2.lt g hg).2; omega
        clear hm8 hb8 ht8 hf8 hst8 hor8 HS6
        go_upto_region 15 with (fail)
        go_cut [] (fun W => W = w8.setCell ⟨gr, 2, none⟩ (.bool (o8 && decide (j < dg))))
        case first =>
          cases o8
          · go_wp2_with fail
            go_meet
            rfl
          · by_cases hj : j < dg
            · have e1 : decide (j < dg) = true := by simp [hj]
              go_wp2_with fail
              go_meet
              simp [hj]
            · have e1 : decide (j < dg) = false := by simp [hj]
              go_wp2_with fail
              go_meet
              simp [hj]
        case rest =>
        obtain rfl := hcut
        obtain ⟨o9, ho9⟩ : ∃ o9, o9 = (o8 && decide (j < dg)) := ⟨_, rfl⟩
        rw [← ho9]
        have HS9 : Hid (SvSt w gr p s (a8 : Nat) o9 d i (deps ts : Nat) vp vt vp vt ps rs rs' ts' (w8.setCell ⟨gr, 2, none⟩ (.bool o9))) := Lib.hid (HS8.out.moved (HS8.out.rdr.put 2 (.bool o9)) (grown_set1 _ _ _ _))
        have HB9 := Lib.hid (HB8.out.far (p := ⟨gr, 2, none⟩) hpp2 (.bool o9))
        have HO9 := Lib.hid ho9
        clear ho9 HS8 HB8 hk8 hn8 hr8 hg8
        generalize w8.setCell ⟨gr, 2, none⟩ (.bool o9) = w9 at *
        have hn9 := HS9.out.node.cell
        go_upto_region 17 with (refine wpList_append_intsL (S := fun _ => True) _ rfl (.tmp 100) (.tmp 102) rfl w.heap.size vp (zs ps) rfl (NodeSt.alloc_ HS9.out).own1 _ [(j : Int)] rfl (IntsR.oneAt (Blk.newAt rfl)) (by simp [zs]; omega) (NodeSt.alloc_ HS9.out).grw.size ?_; intro A1 c1 w10 ho hg hl; have HSA := Lib.hid ((NodeSt.alloc_ HS9.out).app1 ho hg hl); have HBA := Lib.hid (Blk.kept (HB9.out.alloc _) hg (fun e => HV1.out _ e.symm rfl)); clear ho hg hl; have kA := HSA.out.node.cell; have fA := HSA.out.node.free)
        obtain ⟨v1, hv1⟩ : ∃ v1, v1 = Value.slice A1 ((zs ps).length + 1) c1 := ⟨_, rfl⟩
        have HSV : Hid (SvSt w gr p s (a8 : Nat) o9 d i (deps ts : Nat) vp vt v1 vt (ps ++ [j]) rs rs' ts' w10) := Lib.hid (by rw [hv1]; exact HSA.out)
        rw [← hv1]
        clear HSA hv1
        have HSA2 := Lib.hid (HSV.out.store (HSV.out.node.put 2 v1) (grown_set1 w10 p 2 v1))
        have HBA2 := Lib.hid (HBA.out.far (p := ⟨p, 2, none⟩) hpp1 v1)
        clear HSV HBA kA fA hn9 HS9 HB9
        generalize w10.setCell ⟨p, 2, none⟩ v1 = wb at *
        have hnb := HSA2.out.node.cell
        go_upto_region 18 with (refine wpList_append_G ptrTS (S := fun _ => True) _ rfl (.tmp 110) (.tmp 112) rfl w.heap.size vt rs rfl (NodeSt.alloc_ HSA2.out).own2 _ [p8] rfl (SlR.oneP (Blk.newAt rfl)) (by simp; omega) (NodeSt.alloc_ HSA2.out).grw.size ?_; intro A2 c2 w11 ho hg hl; have HSB := Lib.hid ((NodeSt.alloc_ HSA2.out).app2 ho hg hl); have HBB := Lib.hid (Blk.kept (HBA2.out.alloc _) hg (fun e => HV2.out _ e.symm rfl)); clear ho hg hl; have kA := HSB.out.node.cell; have fA := HSB.out.node.free)
        obtain ⟨v2, hv2⟩ : ∃ v2, v2 = Value.slice A2 (k + 1) c2 := ⟨_, rfl⟩
        have HSW : Hid (SvSt w gr p s (a8 : Nat) o9 d i (deps ts : Nat) v1 vt v1 v2 (ps ++ [j]) (rs ++ [p8]) rs' ts' w11) := Lib.hid (by rw [hv2, ← hql]; exact HSB.out)
        rw [← hv2]
        clear HSB hv2
        have HSB2 := Lib.hid (HSW.out.store (HSW.out.node.put 3 v2) (grown_set1 w11 p 3 v2))
        have HBB2 := Lib.hid (HBB.out.far (p := ⟨p, 3, none⟩) hpp1 v2)
        clear HSW HBB kA fA hnb HSA2 HBA2
        generalize w11.setCell ⟨p, 3, none⟩ v2 = wc2 at *
        have hn2 := HSB2.out.node.cell
        have hf2 := HSB2.out.node.free
        have hb2 := HBB2.out.cell
        have hw1 : IntKind.i64.wrap ((dp8 : Int) + 1) = (dp8 : Int) + 1 := IntWalk.i64_in _ (by omega)
        have HMX : Hid (max ((deps ts : Nat) : Int) ((dp8 : Int) + 1) = ((max (deps ts) (dp8 + 1) : Nat) : Int)) := Lib.hid (by omega)
        have HREL : Hid (∀ W, SvSt w gr p s (a8 : Nat) o9 d i ((max (deps ts) (dp8 + 1) : Nat) : Int) v1 v2 v1 v2 (ps ++ [j]) (rs ++ [p8]) rs' ts' W → SvRel f w gr p s a a3 d i (.int .i64 ((k : Int) + 1)) W) := Lib.hid fun W hW => by
          refine ⟨k + 1, a8, o9, max (deps ts) (dp8 + 1), v1, v2, ps ++ [j], rs ++ [p8], rs', ts', by go_num, by omega, ha8, by omega, by omega, by simp [hpl], by simp [hql], hW, fun ho => ?_, fun ho => ?_⟩
          · have h9 := HO9.out
            rw [ho] at h9
            simp only [Bool.true_eq, Bool.and_eq_true, decide_eq_true_eq] at h9
            obtain ⟨h8, hj⟩ := h9
            obtain ⟨e1, t, e2, e3, e4, e5⟩ := HO8.out h8
            obtain ⟨h6, -, -⟩ := HT8.out h8
            obtain ⟨h5, -, k6⟩ := HT6.out h6
            obtain ⟨h4, -, k5⟩ := HT5.out h5
            have k4 := HT4.out h4
            subst e1 e2
            refine ⟨rfl, by simp [htl], by rw [deps_snoc, e5], ?_⟩
            rw [HX1.out, pre_step (pv f) ps ts k4 k5 k6 e3 (by omega), if_neg (by omega), show d - (k + 1) = m by have := HM.out; omega]
          · exact (by
              rw [HXX.out, sv_none (p := pv f) (t4 := HT4.out) (f4 := HF4.out) (t5 := fun h => ⟨(HT5.out h).1, (HT5.out h).2.2⟩) (f5 := HF5.out) (t6 := fun h => ⟨(HT6.out h).1, (HT6.out h).2.2⟩) (f6 := HF6.out)
                (t8 := fun h => ⟨(HT8.out h).1, by obtain ⟨-, -, t, h1, -, h3, -⟩ := HT8.out h; exact ⟨t, h1, h3⟩⟩) (f8 := HF8.out) (h9 := HO9.out) (hf := ho)]
              rfl)
        go_region_with ((go_at_call 174; refine (l1Most_any _ _ _).mono ?_; rintro e w14 ⟨rfl, rfl⟩; rw [HMX.out]))
        all_goals
          go_wp2_with fail
          go_roundw
          case rel => exact HREL.out _ (NodeSt.drew_ (HSB2.out.put4 _))
          case measure => simp [intOf]; omega
      · cases o with
        | false =>
          have HN : Hid (pv (f + 1) (from_ s a) = none) := Lib.hid (HF.out rfl)
          have C9 := Lib.hid (spSign_u 41 41 rfl wr gr s a1 false HS.out.rdr hal hs)
          clear HF HT
          by_cases hkd : k < d
          all_goals
            go_wp2_with (go_at_call 173; refine C9.out.mono ?_; rintro e w9 ⟨a9, o9, rfl, ha9, haa9, hm9, ht9, hf9⟩; have HS9 := Lib.hid (HS.out.moved hm9.1 hm9.2); have HT9 := Lib.hid ht9; clear hm9 ht9 hf9)
            go_ret
            cases o9 with
            | true => exact absurd (HT9.out rfl).1 (by simp)
            | false => exact SvPost.bad HS9.out ha9 (by omega) hdp (.inr HN.out)
        | true =>
          obtain rfl : k = d := by
            have : ¬ k < d := fun h => hlt ⟨h, rfl⟩
            omega
          obtain ⟨hrq, htl, hdd, hx⟩ := HT.out rfl
          subst hrq hdd
          have HXX : Hid (pv (f + 1) (from_ s a) = fin k i (some (ps, ts, from_ s a1))) := Lib.hid (by rw [HX.out, hx, Nat.sub_self, pre_zero])
          have C9 := Lib.hid (spSign_u 41 41 rfl wr gr s a1 true HS.out.rdr hal hs)
          clear HF HT hx hlt
          go_wp2_with (go_at_call 173; refine C9.out.mono ?_; rintro e w9 ⟨a9, o9, rfl, ha9, haa9, hm9, ht9, hf9⟩; have HS9 := Lib.hid (HS.out.moved hm9.1 hm9.2); have HT9 := Lib.hid ht9; have HF9 := Lib.hid hf9; clear hm9 ht9 hf9)
          go_ret
          cases o9 with
          | true =>
            obtain ⟨-, hl9, h9⟩ := HT9.out rfl
            exact SvPost.ok HS9.out ha9 (by omega) hdp (by rw [HXX.out]; simp [fin, h9])
          | false =>
            rcases HF9.out rfl with h9 | h9
            · cases h9
            · exact SvPost.bad HS9.out ha9 (by omega) hdp (.inr (by rw [HXX.out]; simp [fin, h9]))
end Go.Proofs.Ytclkboemgneojaa
