/- The program's reader of views, whole. -/
import Derived.Test.YtclkboemgneojaaVi3
namespace Go.Proofs.Ytclkboemgneojaa
open Go.RowKit

set_option maxRecDepth 100000 in
set_option maxHeartbeats 4000000 in
theorem rdView (f : Nat) : ∀ (w : World) (gr : Nat) (s : ByteArray) (a : Nat), Blk w gr 169 #[.string s, .int .i64 (a : Nat)] → a ≤ s.size → s.size ≤ 4000 → s.size - a < f →
    Calls Try.prog 129 #[.pointer (some ⟨gr, 0, none⟩)] w (RetView 169 w gr s (pg f (from_ s a))) := by
  induction f with
  | zero => intro w gr s a _ _ _ h; omega
  | succ f ih =>
    intro w gr s a hb ha hs hf
    have HB := Lib.hid hb
    have IH := Lib.hid ih
    have hgl : gr < w.heap.size := hb.lt
    clear hb ih
    cases h1 : dgt 6 (from_ s a) with
    | none =>
      have HN := Lib.hid (pg_none (pv_no1 (f := f) h1))
      have C1 := Lib.hid (rdDigit_no w gr s a 6 HB.out ha h1)
      clear h1
      go_enter Try.func129, Try.ntmps129
      go_wp2_with fail
      refine C1.out.mono ?_
      rintro e w1 ⟨rfl, hm1⟩
      have HM := Lib.hid hm1
      clear hm1
      go_wp2_with fail
      go_ret
      exact RetView.nil HN.out ha (HM.out.alloc _)
    | some x =>
      obtain ⟨d, l1⟩ := x
      obtain ⟨ha1, hd6, hl1⟩ := dgt_lt h1
      subst hl1
      have C1 := Lib.hid (rdDigit_yes w gr s a 6 d _ HB.out hs h1)
      have H1 := Lib.hid h1
      clear h1
      go_enter Try.func129, Try.ntmps129
      go_wp2_with fail
      refine C1.out.mono ?_
      rintro e w1 ⟨rfl, hm1⟩
      have hz1 : w.heap.size ≤ w1.heap.size := hm1.size
      have hst : ViSt w gr w1.heap.size s ((a + 1 : Nat) : Int) d 0 0 (.slice none 0 0) (.slice none 0 0) (.slice none 0 0) (.slice none 0 0) [] [] [] [] (w1.alloc (.cells #[.int .i64 d, .int .i64 0, .slice none 0 0, .slice none 0 0, .int .i64 0] 166)) := NodeSt.new hm1.1 hgl hm1.2 d
      have HS := Lib.hid hst
      have hd0 : ¬ (d : Int) < 0 := by omega
      clear hm1 hst C1
      obtain ⟨p, hp⟩ : ∃ p, p = w1.heap.size := ⟨_, rfl⟩
      have hpz : w.heap.size ≤ p := by omega
      cases h2 : sgn 46 (from_ s (a + 1)) with
      | none =>
        have HN := Lib.hid (pg_none (pv_no2 (f := f) H1.out h2))
        have C2 := Lib.hid (fun W hW => rdNext_n 46 46 rfl W gr s (a + 1) hW (by omega) h2)
        clear h2
        go_wp2_with fail
        rw [← hp] at HS ⊢
        clear hp
        generalize w1.alloc _ = wa at *
        refine (C2.out _ HS.out.rdr).mono ?_
        rintro e w2 ⟨rfl, hm2⟩
        have HM := Lib.hid (HS.out.mv.trans hm2)
        clear hm2
        go_wp2_with fail
        go_ret
        exact RetView.nil HN.out (by omega) HM.out
      | some l2 =>
        obtain ⟨ha2, hl2⟩ := sgn_lt h2
        subst hl2
        have C2 := Lib.hid (fun W hW => rdNext_y 46 46 rfl W gr s (a + 1) _ hW hs h2)
        have H2 := Lib.hid h2
        clear h2
        go_wp2_with fail
        rw [← hp] at HS ⊢
        clear hp
        generalize w1.alloc _ = wa at *
        refine (C2.out _ HS.out.rdr).mono ?_
        rintro e w2 ⟨rfl, hm2⟩
        have HS2 := Lib.hid (HS.out.moved hm2.1 hm2.2)
        clear hm2 HS C2
        cases h3 : dgt 9 (from_ s (a + 1 + 1)) with
        | none =>
          have HN := Lib.hid (pg_none (pv_no3 (f := f) H1.out H2.out h3))
          have C3 := Lib.hid (rdDigit_no w2 gr s (a + 1 + 1) 9 HS2.out.rdr (by omega) h3)
          clear h3
          go_wp2_with fail
          refine C3.out.mono ?_
          rintro e w3 ⟨rfl, hm3⟩
          have HS3 := Lib.hid (HS2.out.moved hm3.1 hm3.2)
          have HS4 := Lib.hid (HS3.out.put1 (-1))
          have hc3 := HS3.out.node.cell
          have hf3 := HS3.out.node.free
          clear hm3
          go_wp2_with fail
          go_ret
          exact RetView.nil HN.out (by omega) HS4.out.mv
        | some x =>
          obtain ⟨i, l3⟩ := x
          obtain ⟨ha3, hi9, hl3⟩ := dgt_lt h3
          subst hl3
          have C3 := Lib.hid (rdDigit_yes w2 gr s (a + 1 + 1) 9 i _ HS2.out.rdr hs h3)
          have H3 := Lib.hid h3
          clear h3
          go_wp2_with fail
          refine C3.out.mono ?_
          rintro e w3 ⟨rfl, hm3⟩
          have HS3 := Lib.hid (HS2.out.moved hm3.1 hm3.2)
          have HS4 := Lib.hid (HS3.out.put1 (i : Int))
          have hc3 := HS3.out.node.cell
          have hf3 := HS3.out.node.free
          have hi0 : ¬ (i : Int) < 0 := by omega
          clear hm3 C3 HS2
          by_cases hd : d = 0
          · subst hd
            have HN := Lib.hid (pg_some (pv_leaf (f := f) H1.out H2.out H3.out (.inl rfl)) (leaf_good 0 i))
            go_wp2_with fail
            go_ret
            exact RetView.ptr HN.out (by omega) HS4.out.mv (NodeSt.tree HS4.out)
          · have hde : ((d : Int) == 0) = false := by simp [hd]
            cases h4 : sgn 40 (from_ s (a + 1 + 1 + 1)) with
            | none =>
              have HN := Lib.hid (pg_some (pv_leaf (f := f) H1.out H2.out H3.out (.inr h4)) (leaf_good d i))
              have C4 := Lib.hid (fun W hW => rdNext_n 40 40 rfl W gr s (a + 1 + 1 + 1) hW (by omega) h4)
              clear h4
              go_wp2_with fail
              refine (C4.out _ HS4.out.rdr).mono ?_
              rintro e w4 ⟨rfl, hm4⟩
              have HS5 := Lib.hid (HS4.out.moved hm4.1 hm4.2)
              clear hm4
              go_wp2_with fail
              go_ret
              exact RetView.ptr HN.out (by omega) HS5.out.mv (NodeSt.tree HS5.out)
            | some l4 =>
              obtain ⟨ha4, hl4⟩ := sgn_lt h4
              subst hl4
              have HX := Lib.hid (pv_kids (f := f) H1.out H2.out H3.out hd h4)
              have C4 := Lib.hid (fun W hW => rdNext_y 40 40 rfl W gr s (a + 1 + 1 + 1) _ hW hs h4)
              have H4 := Lib.hid h4
              clear h4
              go_wp2_with fail
              refine (C4.out _ HS4.out.rdr).mono ?_
              rintro e w4 ⟨rfl, hm4⟩
              have HS5 := Lib.hid (HS4.out.moved hm4.1 hm4.2)
              have hc5 := HS5.out.node.cell
              have hf5 := HS5.out.node.free
              clear hm4 C4 HS4 HS3 hc3 hf3
              go_wp2_with fail
              clear hc5 hf5
              go_loopw [46] (fun c wr => ViRel f w gr p s (a + 1 + 1 + 1) d i c wr) (fun c _ => d - (intOf c).toNat)
              case atStart =>
                exact ⟨0, a + 1 + 1 + 1, a + 1 + 1 + 1 + 1, _, _, [], [], [], 40, Nat.zero_le _, rfl, by omega, by omega, rfl, rfl, rfl, HS5.out, (pre_nil _).symm, fun _ => ⟨rfl, H4.out⟩, fun h => absurd h (Nat.lt_irrefl _), (fun t h => absurd h List.not_mem_nil), (fun t h => absurd h List.not_mem_nil)⟩
              case round =>
                clear HS5
                obtain ⟨k, b0, a1, vp, vt, ps, qs, ts, sep, hk, rfl, hal, haf, hpl, hql, htl, hst, hx, hk0, hk1, hgd, hsm⟩ := hrel
                have HS := Lib.hid hst
                have HX1 := Lib.hid hx
                have HK0 := Lib.hid hk0
                have HK1 := Lib.hid hk1
                have HGD := Lib.hid hgd
                have HSM := Lib.hid hsm
                have hc := hst.node.cell
                clear hst hx hk0 hk1 hgd hsm
                by_cases hlt : k < d
                · obtain ⟨m, hm⟩ : ∃ m, d - k = m + 1 := ⟨d - k - 1, by omega⟩
                  have HXX : Hid (pv (f + 1) (from_ s a) = fin d i (pre ps ts (pks (pv f) (m + 1) sep (from_ s b0)))) := Lib.hid (by rw [HX.out, HX1.out, hm])
                  have HM := Lib.hid hm
                  clear hm
                  go_upto_region 12 with (fail)
                  go_cut [55] (fun c W => ∃ a2, a2 ≤ s.size ∧ a1 ≤ a2 ∧ ViSt w gr p s (a2 : Nat) d i 0 vp vt vp vt ps qs qs ts W ∧ ((c = .bool true ∧ pg (f + 1) (from_ s a) = none) ∨ (c = .bool false ∧ sgn sep (from_ s b0) = some (from_ s a2))))
                  case first =>
                    by_cases hk : k = 0
                    · have e1 : decide (0 < k) = false := by simp [hk]
                      have HE : Hid (sgn sep (from_ s b0) = some (from_ s a1)) := Lib.hid (by rw [(HK0.out hk).1]; exact (HK0.out hk).2)
                      clear hk
                      go_wp2_with fail
                      go_meet
                      exact ⟨a1, hal, Nat.le_refl _, HS.out, .inr ⟨rfl, HE.out⟩⟩
                    · have e1 : decide (0 < k) = true := by simp; omega
                      obtain ⟨rfl, rfl⟩ := HK1.out (by omega)
                      clear hk
                      cases h5 : sgn 44 (from_ s b0) with
                      | none =>
                        have C5 := Lib.hid (rdNext_n 44 44 rfl wr gr s b0 HS.out.rdr hal h5)
                        have HN : Hid (pg (f + 1) (from_ s a) = none) := Lib.hid (pg_none (by rw [HXX.out, pks_none1 _ h5]; rfl))
                        clear h5
                        go_wp2_with (go_at_call 176; refine C5.out.mono ?_; rintro e w5 ⟨rfl, hm5⟩; have HS5 := Lib.hid (HS.out.moved hm5.1 hm5.2); clear hm5)
                        go_meet
                        exact ⟨b0, hal, Nat.le_refl _, HS5.out, .inl ⟨rfl, HN.out⟩⟩
                      | some l5 =>
                        obtain ⟨ha5, hl5⟩ := sgn_lt h5
                        subst hl5
                        have C5 := Lib.hid (rdNext_y 44 44 rfl wr gr s b0 _ HS.out.rdr hs h5)
                        have HE := Lib.hid h5
                        clear h5
                        go_wp2_with (go_at_call 176; refine C5.out.mono ?_; rintro e w5 ⟨rfl, hm5⟩; have HS5 := Lib.hid (HS.out.moved hm5.1 hm5.2); clear hm5)
                        go_meet
                        exact ⟨b0 + 1, by omega, by omega, HS5.out, .inr ⟨rfl, HE.out⟩⟩
                  case rest =>
                  obtain ⟨a2, hal2, ha12, hst2, hor⟩ := hcut
                  have HS2 := Lib.hid hst2
                  clear hst2 HS HK0 HK1 hc
                  rcases hor with ⟨rfl, hn⟩ | ⟨rfl, hsg⟩
                  · have HN := Lib.hid hn
                    clear hn
                    go_wp2_with fail
                    go_ret
                    exact RetView.nil HN.out hal2 HS2.out.mv
                  have HSG := Lib.hid hsg
                  clear hsg
                  cases h6 : dgt 5 (from_ s a2) with
                  | none =>
                    have C6 := Lib.hid (rdDigit_no _ gr s a2 5 HS2.out.rdr hal2 h6)
                    have HN : Hid (pg (f + 1) (from_ s a) = none) := Lib.hid (pg_none (by rw [HXX.out, pks_none2 _ HSG.out h6]; rfl))
                    clear h6
                    go_wp2_with fail
                    refine C6.out.mono ?_
                    rintro e w6 ⟨rfl, hm6⟩
                    have HS6 := Lib.hid (HS2.out.moved hm6.1 hm6.2)
                    clear hm6
                    go_wp2_with fail
                    go_ret
                    exact RetView.nil HN.out hal2 HS6.out.mv
                  | some x6 =>
                  obtain ⟨j, l6⟩ := x6
                  obtain ⟨ha6, hj5, hl6⟩ := dgt_lt h6
                  subst hl6
                  have C6 := Lib.hid (rdDigit_yes _ gr s a2 5 j _ HS2.out.rdr hs h6)
                  have H6 := Lib.hid h6
                  have hj0 : ¬ (j : Int) < 0 := by omega
                  clear h6
                  go_wp2_with fail
                  refine C6.out.mono ?_
                  rintro e w6 ⟨rfl, hm6⟩
                  have HS6 := Lib.hid (HS2.out.moved hm6.1 hm6.2)
                  clear hm6 C6 HS2
                  cases h7 : sgn 58 (from_ s (a2 + 1)) with
                  | none =>
                    have C7 := Lib.hid (rdNext_n 58 58 rfl w6 gr s (a2 + 1) HS6.out.rdr (by omega) h7)
                    have HN : Hid (pg (f + 1) (from_ s a) = none) := Lib.hid (pg_none (by rw [HXX.out, pks_none3 _ HSG.out H6.out h7]; rfl))
                    clear h7
                    go_wp2_with fail
                    refine C7.out.mono ?_
                    rintro e w7 ⟨rfl, hm7⟩
                    have HS7 := Lib.hid (HS6.out.moved hm7.1 hm7.2)
                    clear hm7
                    go_wp2_with fail
                    go_ret
                    exact RetView.nil HN.out (by omega) HS7.out.mv
                  | some l7 =>
                  obtain ⟨ha7, hl7⟩ := sgn_lt h7
                  subst hl7
                  have C7 := Lib.hid (rdNext_y 58 58 rfl w6 gr s (a2 + 1) _ HS6.out.rdr hs h7)
                  have H7 := Lib.hid h7
                  clear h7
                  go_wp2_with fail
                  refine C7.out.mono ?_
                  rintro e w7 ⟨rfl, hm7⟩
                  have HS7 := Lib.hid (HS6.out.moved hm7.1 hm7.2)
                  clear hm7 C7 HS6
                  go_wp2_with fail
                  refine (IH.out w7 gr s (a2 + 1 + 1) HS7.out.rdr (by omega) hs (by omega)).mono ?_
                  rintro e w8 ⟨a5, ha5, hm8, hres⟩
                  cases h8 : pg f (from_ s (a2 + 1 + 1)) with
                  | none =>
                    rw [h8] at hres
                    have hres : e = .returned (.pointer none) := hres
                    subst hres
                    have HN : Hid (pg (f + 1) (from_ s a) = none) := Lib.hid (by
                      rcases pg_no h8 with h9 | ⟨t, r, h9, hb⟩
                      · exact pg_none (by rw [HXX.out, pks_none4 _ HSG.out H6.out H7.out h9]; rfl)
                      · by_cases hj : j < t.deg
                        · exact pg_part (ps := ps ++ [j]) (ts := ts ++ [t]) (by rw [HXX.out, pre_step (pv f) ps ts HSG.out H6.out H7.out h9 hj]) (u := t) (by simp) hb
                        · exact pg_none (by rw [HXX.out, pks_none5 _ HSG.out H6.out H7.out h9 hj]; rfl))
                    have HS8 := Lib.hid (HS7.out.moved hm8.1 hm8.2)
                    clear hm8 h8
                    go_wp2_with fail
                    go_quiet (fail)
                    go_wp2_with fail
                    go_ret
                    exact RetView.nil HN.out ha5 (HS8.out.mv.trans (Moved.same HS8.out.rdr _))
                  | some x8 =>
                  obtain ⟨t, r8⟩ := x8
                  rw [h8] at hres
                  obtain ⟨hr8, q, he8, ht8⟩ := hres
                  have ha5l : a + 1 + 1 + 1 < a5 := by
                    have h10 := pv_len (pg_inv h8).1
                    rw [hr8, from_len, from_len] at h10
                    omega
                  subst hr8 he8
                  obtain ⟨h9, hg9⟩ := pg_inv h8
                  have hs8 := HS7.out.part hm8.1 hm8.2 ht8
                  have HS8 := Lib.hid hs8
                  have H9 := Lib.hid h9
                  have HG9 := Lib.hid hg9
                  obtain ⟨kq0, kq4, -, -⟩ := ht8.deg
                  have kp := hs8.node.cell
                  clear hm8 h8 h9 hg9 hs8 ht8
                  by_cases hj : j < t.deg
                  case neg =>
                    have HN : Hid (pg (f + 1) (from_ s a) = none) := Lib.hid (pg_none (by rw [HXX.out, pks_none5 _ HSG.out H6.out H7.out H9.out hj]; rfl))
                    have e8 : decide (t.deg ≤ j) = true := by simp; omega
                    clear hj
                    go_wp2_with fail
                    go_quiet (fail)
                    go_wp2_with fail
                    go_ret
                    exact RetView.nil HN.out ha5 (HS8.out.mv.trans (Moved.same HS8.out.rdr _))
                  have e8 : decide (t.deg ≤ j) = false := by simp; omega
                  have HXS : Hid (pv (f + 1) (from_ s a) = fin d i (pre (ps ++ [j]) (ts ++ [t]) (pks (pv f) m 44 (from_ s a5)))) := Lib.hid (by rw [HXX.out, pre_step (pv f) ps ts HSG.out H6.out H7.out H9.out hj])
                  have HJ := Lib.hid hj
                  clear hj kp kq0 kq4
                  go_upto_region 18 with (fail)
                  go_cut [96] (fun c W => (∃ n, W = w8.drewN n) ∧ ((c = .bool true ∧ pg (f + 1) (from_ s a) = none) ∨ (c = .bool false ∧ ∀ u ∈ ts, t.dep = u.dep)))
                  case first =>
                    have ht8 := HS8.out.trees.at_ (j := ts.length) (by simp)
                    have hga : ga (ts ++ [t]) ts.length = t := by simp [ga]
                    have hgq : ga (qs ++ [q]) ts.length = q := by rw [htl, ← hql]; simp [ga]
                    rw [hga, hgq] at ht8
                    obtain ⟨kq0, kq4, -, -⟩ := ht8.deg
                    have kp := HS8.out.node.cell
                    clear ht8 hga hgq
                    by_cases hk : k = 0
                    · have e9 : decide (0 < k) = false := by simp [hk]
                      have HE : Hid (∀ u ∈ ts, t.dep = u.dep) := Lib.hid (by
                        have : ts = [] := List.eq_nil_of_length_eq_zero (by omega)
                        rw [this]; exact fun u h => absurd h List.not_mem_nil)
                      clear hk
                      go_quiet (fail)
                      go_wp2_with fail
                      go_meet
                      exact ⟨⟨_, rfl⟩, .inr ⟨rfl, HE.out⟩⟩
                    · have e9 : decide (0 < k) = true := by simp; omega
                      obtain ⟨g, cap, hvt, -, -, -, -⟩ := HS8.out.own2.addr (by omega)
                      have hown := HS8.out.own2
                      subst hvt
                      have kg := (hown.at_ (j := 0) (by omega)).1 0 (by decide)
                      have ht0 := HS8.out.trees.at_ (j := 0) (by simp)
                      have hga : ga (ts ++ [t]) 0 = ga ts 0 := ga_left (by omega)
                      have hgq : ga (qs ++ [q]) 0 = ga qs 0 := ga_left (by omega)
                      rw [hga, hgq] at ht0
                      obtain ⟨-, k04, -, -⟩ := ht0.deg
                      simp only [encP, Nat.zero_mul, Nat.add_zero, List.getElem?_cons_zero] at kg
                      have hql0 : (0 : Int) < (qs.length : Int) := by omega
                      have hql1 : 0 < qs.length := by omega
                      clear hown ht0 hga hgq
                      by_cases hdd : t.dep = (ga ts 0).dep
                      · have e10 : ((t.dep : Int) != ((ga ts 0).dep : Int)) = false := by simp [hdd]
                        have HE : Hid (∀ u ∈ ts, t.dep = u.dep) := Lib.hid fun u hu => hdd.trans (HSM.out _ (ga_mem (by omega)) u hu)
                        clear hdd hk
                        go_quiet (fail)
                        go_wp2_with fail
                        go_meet
                        exact ⟨⟨_, rfl⟩, .inr ⟨rfl, HE.out⟩⟩
                      · have e10 : ((t.dep : Int) != ((ga ts 0).dep : Int)) = true := by simp; omega
                        have HE : Hid (pg (f + 1) (from_ s a) = none) := Lib.hid (pg_differ HXS.out (u := t) (v := ga ts 0) (by simp) (List.mem_append_left _ (ga_mem (by omega))) hdd)
                        clear hdd hk
                        go_quiet (fail)
                        go_wp2_with fail
                        go_meet
                        exact ⟨⟨_, rfl⟩, .inl ⟨rfl, HE.out⟩⟩
                  case rest =>
                  obtain ⟨⟨n9, rfl⟩, hor⟩ := hcut
                  have HS9 := Lib.hid (HS8.out.below (below_drewN (Below.refl _ _) n9))
                  clear HS8
                  rcases hor with ⟨rfl, hn⟩ | ⟨rfl, hse⟩
                  · have HN := Lib.hid hn
                    clear hn
                    go_wp2_with fail
                    go_ret
                    exact RetView.nil HN.out ha5 HS9.out.mv
                  have HSE := Lib.hid hse
                  clear hse
                  generalize w8.drewN n9 = w9 at *
                  go_upto_region 20 with (fail)
                  have HXT : Hid (pks (pv f) d 40 (from_ s (a + 1 + 1 + 1)) = pre (ps ++ [j]) (ts ++ [t]) (pks (pv f) (d - (k + 1)) 44 (from_ s a5))) := Lib.hid (by
                    have h3 := HX1.out
                    rw [HM.out, pre_step (pv f) ps ts HSG.out H6.out H7.out H9.out HJ.out] at h3
                    have h4 := HM.out
                    rw [h3, show d - (k + 1) = m by omega])
                  have HGT : Hid (∀ u ∈ ts ++ [t], u.good = true) := Lib.hid fun u hu => by
                    rcases List.mem_append.1 hu with h | h
                    · exact HGD.out u h
                    · rw [List.mem_singleton.1 h]; exact HG9.out
                  have HST : Hid (∀ u ∈ ts ++ [t], ∀ v ∈ ts ++ [t], u.dep = v.dep) := Lib.hid fun u hu v hv => by
                    rcases List.mem_append.1 hu with h | h <;> rcases List.mem_append.1 hv with h' | h'
                    · exact HSM.out u h v h'
                    · rw [List.mem_singleton.1 h']; exact (HSE.out u h).symm
                    · rw [List.mem_singleton.1 h]; exact HSE.out v h'
                    · rw [List.mem_singleton.1 h, List.mem_singleton.1 h']
                  have HREL : Hid (∀ vp' vt' W, ViSt w gr p s (a5 : Nat) d i 0 vp' vt' vp' vt' (ps ++ [j]) (qs ++ [q]) (qs ++ [q]) (ts ++ [t]) W → ViRel f w gr p s (a + 1 + 1 + 1) d i (.int .i64 ((k : Int) + 1)) W) := Lib.hid fun vp' vt' W hst =>
                    ⟨k + 1, a5, a5, vp', vt', ps ++ [j], qs ++ [q], ts ++ [t], 44, by omega, by go_num, ha5, ha5l, by simp [hpl], by simp [hql], by simp [htl], hst, HXT.out, fun h => absurd h (by omega), fun _ => ⟨rfl, rfl⟩, HGT.out, HST.out⟩
                  refine viReg20 HS9.out (by omega) (by omega) _ _ _ _ _ _ _ _ _ _ _ _ _ _ _ _ _ _ _ _ _ _ _ _ _ _ _ _ _ _ _ _ _ _ _ _ _ _ _ _ _ _ _ _ _ _ _ _ _ _ _ _ _ _ _ _ _ _ _ _ _ _ _ _ _ _ _ _ _ _ _ _ _ _ _ _ _ _ _ _ _ _ _ _ _ _ _ _ _ _ _ _ _ _ _ _ _ _ _ _ _ _ _ _ _ _ _ _ _ _ _ _ _ _ _ _ _ _ _ _ _ _ _ _ _ _ _ _ _ _ _ _ _ _ _ _ _ _ _ _ ?_
                  intro vp' vt' W hst
                  have HSA := Lib.hid (HREL.out vp' vt' W hst)
                  intro _ _ _ _ _ _ _ _ _ _ _ _ _ _ _ _ _ _ _ _
                  clear hst
                  go_wp2_with fail
                  go_roundw
                  case rel => exact HSA.out
                  case measure => simp [intOf]; omega
                · obtain rfl : k = d := by omega
                  have hkp : 0 < k := by omega
                  obtain ⟨rfl, rfl⟩ := HK1.out hkp
                  have HXX : Hid (pv (f + 1) (from_ s a) = fin k i (some (ps, ts, from_ s b0))) := Lib.hid (by rw [HX.out, HX1.out, Nat.sub_self, pre_zero])
                  obtain ⟨g, cap, hvt, -, -, -, -⟩ := HS.out.own2.addr (by omega)
                  subst hvt
                  have kg := (HS.out.own2.at_ (j := 0) (by omega)).1 0 (by decide)
                  obtain ⟨-, k04, -, -⟩ := (HS.out.trees.at_ (j := 0) (by omega)).deg
                  simp only [encP, Nat.zero_mul, Nat.add_zero, List.getElem?_cons_zero] at kg
                  have hql0 : (0 : Int) < (qs.length : Int) := by omega
                  have hql1 : 0 < qs.length := by omega
                  have hde : deps ts = (ga ts 0).dep + 1 := deps_same (fun t ht => HSM.out t ht _ (ga_mem (by omega))) (fun e => by rw [e] at htl; simp at htl; omega)
                  have hdl : (ga ts 0).dep ≤ 80 := by
                    have := HGD.out _ (ga_mem (xs := ts) (j := 0) (by omega))
                    simp only [VT.good, Bool.and_eq_true, decide_eq_true_eq] at this
                    exact this.2
                  have hw1 : IntKind.i64.wrap (((ga ts 0).dep : Int) + 1) = ((ga ts 0).dep : Int) + 1 := IntWalk.i64_in _ (by omega)
                  have HS1 := Lib.hid (HS.out.put4 (((ga ts 0).dep : Int) + 1))
                  have hf := HS.out.node.free
                  have HDE := Lib.hid hde
                  clear hde
                  cases h5 : sgn 41 (from_ s b0) with
                  | none =>
                    have HN : Hid (pg (f + 1) (from_ s a) = none) := Lib.hid (pg_none (by rw [HXX.out]; simp [fin, h5]))
                    have C5 := Lib.hid (rdNext_n 41 41 rfl _ gr s b0 HS1.out.rdr hal h5)
                    clear h5
                    go_wp2_with fail
                    refine C5.out.mono ?_
                    rintro e w5 ⟨rfl, hm5⟩
                    have HS5 := Lib.hid (HS1.out.moved hm5.1 hm5.2)
                    clear hm5
                    go_wp2_with fail
                    go_ret
                    exact RetView.nil HN.out hal HS5.out.mv
                  | some l5 =>
                    obtain ⟨ha5, hl5⟩ := sgn_lt h5
                    subst hl5
                    have HP : Hid (pv (f + 1) (from_ s a) = some (.mk k i ps ts, from_ s (b0 + 1))) := Lib.hid (by rw [HXX.out]; simp [fin, h5])
                    have C5 := Lib.hid (rdNext_y 41 41 rfl _ gr s b0 _ HS1.out.rdr hs h5)
                    clear h5
                    go_wp2_with fail
                    refine C5.out.mono ?_
                    rintro e w5 ⟨rfl, hm5⟩
                    have hs5 := HS1.out.moved hm5.1 hm5.2
                    have HS5 := Lib.hid hs5
                    have k5 := hs5.node.cell
                    clear hm5 hs5
                    by_cases h80 : (ga ts 0).dep + 1 ≤ 80
                    · have hgt : (VT.mk k i ps ts).good = true := good_mk HGD.out HSM.out (by rw [HDE.out]; exact h80)
                      have HN := Lib.hid (pg_some HP.out hgt)
                      have e1 : ¬ (80 : Int) < ((ga ts 0).dep : Int) + 1 := by omega
                      clear hgt
                      go_wp2_with fail
                      go_ret
                      refine RetView.ptr HN.out (by omega) HS5.out.mv ?_
                      have := HS5.out
                      have e2 : ((ga ts 0).dep : Int) + 1 = ((deps ts : Nat) : Int) := by rw [HDE.out]; rfl
                      rw [e2] at this
                      exact NodeSt.tree this
                    · have HN : Hid (pg (f + 1) (from_ s a) = none) := Lib.hid (pg_bad fun t r ht => by
                        rw [HP.out] at ht
                        simp only [Option.some.injEq, Prod.mk.injEq] at ht
                        obtain ⟨rfl, rfl⟩ := ht
                        simp only [VT.good, dep_mk, HDE.out, Bool.and_eq_false_iff, decide_eq_false_iff_not]
                        exact .inr h80)
                      have e1 : (80 : Int) < ((ga ts 0).dep : Int) + 1 := by omega
                      go_wp2_with fail
                      go_ret
                      exact RetView.nil HN.out (by omega) HS5.out.mv
end Go.Proofs.Ytclkboemgneojaa
