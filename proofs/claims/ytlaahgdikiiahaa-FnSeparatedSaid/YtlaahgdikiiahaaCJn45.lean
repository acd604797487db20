/- Parts of the proof, joined: Dpj, Dpk, Dpl, Dpm, Dpv, Dpw, Lsp, LaSeparated. -/
import Derived.Test.YtlaahgdikiiahaaCJn28
import Derived.Test.YtlaahgdikiiahaaCDpi
import Derived.Test.YtlaahgdikiiahaaCVca
import Derived.Test.YtlaahgdikiiahaaCPn6
import Derived.Test.YtlaahgdikiiahaaCJn33
import Derived.Test.YtlaahgdikiiahaaCJn17
import Derived.Test.YtlaahgdikiiahaaCJn40
import Derived.Test.YtlaahgdikiiahaaCJn43
import Derived.Test.YtlaahgdikiiahaaCLwb
set_option linter.unusedSimpArgs false
set_option linter.unusedVariables false
namespace Go.Proofs.Ytlaahgdikiiahaa
section
open Go Go.RowKit
theorem implCls0 (f : NF) (N : Net) (hf : Fine N) (hin : N.inputs.length = N.ends.length) (hl : N.ends.length ≤ 1000) (hp : 0 < N.ends.length) :
 DCalls Try.prog 15 [.agg (netC f N), .c (.p (.slice none 0 0))] (fun r => r = [.own false [.sl true 3 1 ((vcls N 0).map iC)]]) := dcalls_I fun w vs h1 h2 => by
 obtain ⟨u, c, rfl, g1, g2⟩ := args2 h1 h2
 obtain rfl : c = .slice none 0 0 := ro_p g2
 exact viewClasses_any (S' := fun _ => True) u _ N none w (argN g1) hf hin hl hp rfl
theorem implCls (f : NF) (o : Bool) (tt : TypeId) (N : Net) (t : Nat) (hf : Fine N) (hin : N.inputs.length = N.ends.length) (hl : N.ends.length ≤ 1000) (hp : 0 < N.ends.length) :
 DCalls Try.prog 15 [.agg (netC f N), .c (ints o tt (vcls N t))] (fun r => r = [.own false [.sl true 3 1 ((vcls N (t + 1)).map iC)]]) := dcalls_I fun w vs h1 h2 => by
 obtain ⟨u, c, rfl, g1, g2⟩ := args2 h1 h2
 refine viewClasses_any u c N (some (vcls N t)) w (argN g1) hf hin hl hp ⟨RO_ints g2, vcls_len _ _, fun x hx => ?_⟩
 have := cls_in (by omega) t x hx
 omega
theorem joined_d (f g : NF) (M N : Net) (hs : Small M) (hs' : Small N) (hp : 1 ≤ M.ends.length) (hp' : 1 ≤ N.ends.length) (hsym : Sym N.ends) :
 DCalls Try.prog 14 [.agg (netC f M), .agg (netC g N)] (fun r => r = [.own true (netO (unionN M N))]) := dcalls_nt fun w vs h1 h2 => by
 obtain ⟨u, c, rfl, g1, g2⟩ := args2 h1 h2
 exact joined_any u c M N w (argN g1) (argN g2) hs hs' hp hp' hsym
theorem dfxDpj : type_of% (And.intro tab27 (And.intro tab25 (And.intro tab3 (And.intro tab24 (And.intro @if_pos.{1} (And.intro @netO.eq_1 (And.intro @rowi (And.intro @getDi @trivial)))))))) := And.intro tab27 (And.intro tab25 (And.intro tab3 (And.intro tab24 (And.intro @if_pos.{1} (And.intro @netO.eq_1 (And.intro @rowi (And.intro @getDi @trivial)))))))
set_option maxRecDepth 8000 in
set_option maxHeartbeats 0 in
theorem stable_d (f : NF) (N : Net) (d : Nat) (hf : Fine N) (hin : N.inputs.length = N.ends.length) (hl : N.ends.length ≤ 1000) (hp : 0 < N.ends.length) (hd : IsSd N d) :
 DCalls Try.prog 20 [.agg (netC f N)] (fun r => r = [.c (.p (.int .i64 d)), .own false [.sl true 3 1 ((vcls N d).map iC)]]) := by
 have hdl := hd.lt (hf.rng hp)
 refine dcalls_of Try.func20 rfl (by rw [Try.ntmps20]; simp) fun w0 => ?_
 rw [Try.ntmps20]
 have dfx := dfxDpj
 simp only [initE, argsL, Arg.av, netC, endss, ints, ends]
 refine dw_seq (dwR fun K hK => ?_)
 repeat refine evF ?_
 refine aops_end (hK _ (dwK [1] ?_))
 clear hK K
 refine dw_seq (dwR fun K hK => ?_)
 repeat refine evF ?_
 refine clF rfl ⟨rfl, _, rfl⟩ (by omega) (by first | exact may15) (implCls0 ⟨false, f.t1, f.o2, f.t2, false, f.t3, false, f.t4⟩ N hf hin hl hp) ?_
 rintro _ rfl
 repeat refine evF ?_
 refine aops_end (hK _ (dwK [1, 4] ?_))
 clear hK K
 refine dw_seq (dwR fun K hK => ?_)
 repeat refine evF ?_
 refine aops_end (hK _ (dwK [1, 4, 5] ?_))
 clear hK K
 refine dw_block ?_
 refine dw_loopP (X := Nat) (fun t => t ≤ d) (fun t => [(5, .c (.p (.int .i64 t)))]) (fun t => [((4, 0), ⟨none, [.sl true 3 1 ((vcls N t).map iC)]⟩)]) (fun t => d - t) 0 (Nat.zero_le _) (by first | rfl | (simp only [bunK, C.at, C.put, List.dropLast, List.isPrefixOf, Nat.reduceMul, Nat.reduceLT, Nat.reduceLeDiff, Nat.reduceBEq, Nat.reduceEqDiff, reduceCtorEq, Nat.reduceAdd, ↓reduceIte, Int.natCast_zero] <;> rfl)) ?_
 rintro t ht
 intro E hE
 simp only [bunK, C.at, C.put, List.dropLast, List.isPrefixOf, Nat.reduceMul, Nat.reduceLT, Nat.reduceLeDiff, Nat.reduceBEq, Nat.reduceEqDiff, reduceCtorEq, Nat.reduceAdd, ↓reduceIte] at hE
 subst hE
 refine dw_seq (dw_block ?_)
 refine dw_seq (dwR fun K hK => ?_)
 repeat refine evF ?_
 refine clF rfl ⟨rfl, _, rfl⟩ (by omega) (by first | exact may15) (implCls ⟨false, f.t1, f.o2, f.t2, false, f.t3, false, f.t4⟩ true 3 N t hf hin hl hp) ?_
 rintro _ rfl
 repeat refine evF ?_
 refine aops_end (hK _ (dwK [1, 4, 5, 6] ?_))
 clear hK K
 refine dw_seq ?_
 refine dw_seq (dwR fun K hK => ?_)
 repeat refine evF ?_
 refine clF rfl ⟨rfl, _, rfl⟩ (by omega) (by first | exact may39) (classCount_d true 3 (vcls N (t + 1)) (by rw [vcls_len]; omega) (cls_in (by omega) _)) ?_
 rintro _ rfl
 repeat refine evF ?_
 refine clF rfl ⟨rfl, _, rfl⟩ (by omega) (by first | exact may39) (classCount_d true 3 (vcls N t) (by rw [vcls_len]; omega) (cls_in (by omega) _)) ?_
 rintro _ rfl
 repeat refine evF ?_
 have dfk := @many_cls
 refine aops_end (hK _ (dwKF [1, 4, 5, 6, 18] ?_))
 clear hK K
 refine dwI (fun hb => ?_) (fun hb => ?_)
 ·have he : vmany N (t + 1) = vmany N t := by simp at hb; omega
  have htd : t = d := by
   rcases Nat.lt_or_ge t d with h | h
   ·exact absurd he (hd.2 t h)
   ·omega
  refine dw_seq (dwR fun K hK => ?_)
  repeat refine evF ?_
  refine aops_end (hK _ (dwK [2, 3] ?_))
  clear hK K
  exact dw_ret (fin_ret Try.results20 (.two (.plain _ _ rfl) (.own _ _ _ _ rfl rfl (own1 (owned_ints _ _)))) (by decide) (by rw [htd]))
 ·have htd : t < d := by
   rcases Nat.lt_or_ge t d with h | h
   ·exact h
   ·have : t = d := by omega
    subst this
    have := hd.1
    simp [this] at hb
  refine dw_skip ?_
  show DW _ _ _ _ _
  refine dwR fun K hK => ?_
  repeat refine evF ?_
  refine aops_end (hK _ (dwK [1, 4, 5] ?_))
  clear hK K
  refine dwR fun K hK => ?_
  repeat refine evF ?_
  have dfk := @castS
  refine aops_end (hK _ ?_)
  clear hK K
  show ∃ x, _ ∧ _ ∧ Weak _ _
  refine ⟨t + 1, ?_, ?_, weakFk [1, 4, 5]⟩
  ·omega
  ·omega
end
section
open Go Go.RowKit
theorem ibeq (a b : Int) : (a == b) = decide (a = b) := by rw [Bool.eq_iff_iff]; simp
def areTwinsSt4 : Nat → Stat
 | 0 => ⟨[11], [], [], [25], [], []⟩
 | 1 => ⟨[1], [], [], [26], [], []⟩
 | 2 => ⟨[25, 26], [(11, 1)], [], [27], [], []⟩
 | 3 => ⟨[27], [(11, 2)], [], [28], [], []⟩
 | 4 => ⟨[11], [], [], [29], [], []⟩
 | 5 => ⟨[4], [(4, 1)], [], [30], [], []⟩
 | 6 => ⟨[30], [(4, 1)], [], [31], [], []⟩
 | 7 => ⟨[31], [], [], [32], [], []⟩
 | 8 => ⟨[3], [], [], [33], [], []⟩
 | 9 => ⟨[32, 33], [], [], [34], [], []⟩
 | 10 => ⟨[29, 34], [(11, 1)], [], [35], [], []⟩
 | 11 => ⟨[35], [(11, 2)], [], [36], [], []⟩
 | 12 => ⟨[28, 36], [], [], [37], [], []⟩
 | 13 => ⟨[37], [], [], [8], [], []⟩
 | 14 => ⟨[], [], [], [9], [], []⟩
 | _ => ⟨[], [], [], [], [], []⟩
theorem dfxDpk : type_of% (And.intro tab27 (And.intro tab25 (And.intro tab3 (And.intro tab24 (And.intro @if_pos.{1} (And.intro @netO.eq_1 (And.intro @rowi (And.intro @getDi @trivial)))))))) := And.intro tab27 (And.intro tab25 (And.intro tab3 (And.intro tab24 (And.intro @if_pos.{1} (And.intro @netO.eq_1 (And.intro @rowi (And.intro @getDi @trivial)))))))
set_option maxRecDepth 8000 in
set_option maxHeartbeats 0 in
theorem areTwins_no (f f' : NF) (M N : Net) (v u : Int) (hM : M.ids.length ≤ 2097152) (hN : N.ids.length ≤ 2097152) (hlM : M.ends.length ≤ 2097152) (hlN : N.ends.length ≤ 2097152) (hn : (nodeB M v && nodeB N u) = false) :
 DCalls Try.prog 8 [.agg (netC f M), .c (.p (.int .i64 v)), .agg (netC f' N), .c (.p (.int .i64 u))] (fun r => r = [.c (.p (.bool false)), .c (.p (.bool false))]) := by
 refine dcalls_of Try.func8 rfl (by rw [Try.ntmps8]; simp) fun w0 => ?_
 rw [Try.ntmps8]
 have dfx := dfxDpk
 simp only [initE, argsL, Arg.av, netC, endss, ints, ends]
 refine dw_seq (dwR fun K hK => ?_)
 repeat refine evF ?_
 refine aops_end (hK _ (dwK [1, 3, 4, 6] ?_))
 clear hK K
 refine dw_seq ?_
 refine dw_seq (dwR fun K hK => ?_)
 repeat refine evF ?_
 refine clF rfl ⟨rfl, _, rfl⟩ (by omega) (by first | exact may19) (nodesOk_d ⟨false, f.t1, f.o2, f.t2, false, f.t3, false, f.t4⟩ ⟨false, f'.t1, f'.o2, f'.t2, false, f'.t3, false, f'.t4⟩ M N v u hM hN hlM hlN) ?_
 rintro _ rfl
 repeat refine evF ?_
 rw [hn]
 repeat refine evF ?_
 refine aops_end (hK _ (dwK [1, 3, 4, 6, 17] ?_))
 clear hK K
 refine dwI (fun hb => ?_) (fun hb => ?_)
 ·refine dw_seq (dwR fun K hK => ?_)
  repeat refine evF ?_
  refine aops_end (hK _ (dwK [8, 9] ?_))
  clear hK K
  exact dw_ret (fin_ret Try.results8 (.two (.plain _ _ rfl) (.plain _ _ rfl)) (by decide) rfl)
 ·cases hb
set_option maxRecDepth 8000 in
set_option maxHeartbeats 0 in
theorem areTwins_yes (f f' : NF) (M N : Net) (v u d : Nat) (hM : nodeB M v = true) (hN : nodeB N u = true) (hs : Small M) (hs' : Small N) (hsym : Sym N.ends) (hlM : M.ends.length ≤ 400) (hlN : N.ends.length ≤ 400) (hiM : M.ids.length ≤ 2097152) (hiN : N.ids.length ≤ 2097152) (hv : v < M.ends.length) (hu : u < N.ends.length)
 (hf : Fine (unionN M N)) (hin : (unionN M N).inputs.length = (unionN M N).ends.length) (hul : (unionN M N).ends.length = M.ends.length + N.ends.length) (hd : IsSd (unionN M N) d) :
 DCalls Try.prog 8 [.agg (netC f M), .c (.p (.int .i64 v)), .agg (netC f' N), .c (.p (.int .i64 u))] (fun r => r = [.c (.p (.bool (decide (gi (vcls (unionN M N) d) v = gi (vcls (unionN M N) d) (u + M.ends.length))))), .c (.p (.bool true))]) := by
 have hok : (nodeB M v && nodeB N u) = true := by rw [hM, hN]; rfl
 have hvl : v < (vcls (unionN M N) d).length := by rw [vcls_len]; omega
 have hxl : M.ends.length + u < (vcls (unionN M N) d).length := by rw [vcls_len]; omega
 rw [Nat.add_comm u]
 refine dcalls_of Try.func8 rfl (by rw [Try.ntmps8]; simp) fun w0 => ?_
 rw [Try.ntmps8]
 have dfx := dfxDpk
 simp only [initE, argsL, Arg.av, netC, endss, ints, ends]
 refine dw_seq (dwR fun K hK => ?_)
 repeat refine evF ?_
 refine aops_end (hK _ (dwK [1, 3, 4, 6] ?_))
 clear hK K
 refine dw_seq ?_
 refine dw_seq (dwR fun K hK => ?_)
 repeat refine evF ?_
 refine clF rfl ⟨rfl, _, rfl⟩ (by omega) (by first | exact may19) (nodesOk_d ⟨false, f.t1, f.o2, f.t2, false, f.t3, false, f.t4⟩ ⟨false, f'.t1, f'.o2, f'.t2, false, f'.t3, false, f'.t4⟩ M N v u hiM hiN (by omega) (by omega)) ?_
 rintro _ rfl
 repeat refine evF ?_
 rw [hok]
 repeat refine evF ?_
 refine aops_end (hK _ (dwK [1, 3, 4, 6, 17] ?_))
 clear hK K
 refine dwI (fun hb => ?_) (fun hb => ?_)
 ·cases hb
 ·refine dw_skip ?_
  show DW _ _ _ _ _
  refine dw_seq (dwR fun K hK => ?_)
  repeat refine evF ?_
  refine clF rfl ⟨rfl, _, rfl⟩ (by omega) (by first | exact may14) (joined_d ⟨false, f.t1, f.o2, f.t2, false, f.t3, false, f.t4⟩ ⟨false, f'.t1, f'.o2, f'.t2, false, f'.t3, false, f'.t4⟩ M N hs hs' (by omega) (by omega) hsym) ?_
  rintro _ rfl
  repeat refine evF ?_
  refine clF rfl ⟨rfl, _, rfl⟩ (by omega) (by first | exact may20) (stable_d ⟨true, 38, true, 40, true, 3, true, 3⟩ (unionN M N) d hf hin (by omega) (by omega) hd) ?_
  rintro _ rfl
  repeat refine evF ?_
  refine aops_end (hK _ (dwK [1, 3, 4, 11] ?_))
  clear hK K
  generalize hx : M.ends.length + u = x at *
  have hx' : ((M.ends.length : Int) + (u : Int)) = (x : Int) := by omega
  have dfx := And.intro dfx (And.intro @areTwinsSt4.eq_def @hx')
  refine dw_seq (dwRD areTwinsSt4 (fun j r => match j with | _ => True) fun K hK => ?_)
  repeat refine dvF ?_
  refine dops_end (hK _ (dwK [8, 9] ?_))
  clear hK K
  exact dw_ret (fin_ret Try.results8 (.two (.plain _ _ rfl) (.plain _ _ rfl)) (by decide) (by rw [ibeq]))
end
section
open Go Go.RowKit
theorem vcls_up {N : Net} (h : Rng N) {u v : Nat} (hu : u < N.ends.length) (hv : v < N.ends.length) (t : Nat) : ∀ k, gi (vcls N (t + k)) u = gi (vcls N (t + k)) v → gi (vcls N t) u = gi (vcls N t) v
 | 0, e => e
 | k + 1, e => vcls_up h hu hv t k ((vcls_iff hu hv).2 (vk_finer h (t + k) u v hu hv ((vcls_iff hu hv).1 e)))
theorem sep_twins {U : Net} (h : Rng U) {d v x : Nat} {so : Option Nat} (hv : v < U.ends.length) (hx : x < U.ends.length) (hso : SepOf U d v x so) : decide (gi (vcls U d) v = gi (vcls U d) x) = !so.isSome := by
 cases so with
 | none => simpa using hso d (Nat.le_refl _)
 | some s =>
  have h1 := hso.1
  have h2 : gi (vcls U d) v ≠ gi (vcls U d) x := fun e => hso.2.1 (by
   have := vcls_up h hv hx s (d - s)
   rw [show s + (d - s) = d by omega] at this
   exact this e)
  simpa using h2
def sepDepthSt7 : Nat → Stat
 | 0 => ⟨[13], [], [], [33], [], []⟩
 | 1 => ⟨[1], [], [], [34], [], []⟩
 | 2 => ⟨[33, 34], [(13, 1)], [], [35], [], []⟩
 | 3 => ⟨[35], [(13, 2)], [], [36], [], []⟩
 | 4 => ⟨[13], [], [], [37], [], []⟩
 | 5 => ⟨[4], [(4, 1)], [], [38], [], []⟩
 | 6 => ⟨[38], [(4, 1)], [], [39], [], []⟩
 | 7 => ⟨[39], [], [], [40], [], []⟩
 | 8 => ⟨[3], [], [], [41], [], []⟩
 | 9 => ⟨[40, 41], [], [], [42], [], []⟩
 | 10 => ⟨[37, 42], [(13, 1)], [], [43], [], []⟩
 | 11 => ⟨[43], [(13, 2)], [], [44], [], []⟩
 | 12 => ⟨[36, 44], [], [], [45], [], []⟩
 | _ => ⟨[], [], [], [], [], []⟩
theorem dfxDpl : type_of% (And.intro tab27 (And.intro tab25 (And.intro tab3 (And.intro tab24 (And.intro @if_pos.{1} (And.intro @netO.eq_1 (And.intro @rowi (And.intro @getDi @trivial)))))))) := And.intro tab27 (And.intro tab25 (And.intro tab3 (And.intro tab24 (And.intro @if_pos.{1} (And.intro @netO.eq_1 (And.intro @rowi (And.intro @getDi @trivial)))))))
set_option maxRecDepth 8000 in
set_option maxHeartbeats 0 in
theorem implSep_no (f f' : NF) (M N : Net) (v u : Int) (hM : M.ids.length ≤ 2097152) (hN : N.ids.length ≤ 2097152) (hlM : M.ends.length ≤ 2097152) (hlN : N.ends.length ≤ 2097152) (hn : (nodeB M v && nodeB N u) = false) :
 DCalls Try.prog 6 [.agg (netC f M), .c (.p (.int .i64 v)), .agg (netC f' N), .c (.p (.int .i64 u))] (fun r => r = [.c (.p (.int .i64 0)), .c (.p (.bool false))]) := by
 refine dcalls_of Try.func6 rfl (by rw [Try.ntmps6]; simp) fun w0 => ?_
 rw [Try.ntmps6]
 have dfx := dfxDpl
 simp only [initE, argsL, Arg.av, netC, endss, ints, ends]
 refine dw_seq (dwR fun K hK => ?_)
 repeat refine evF ?_
 refine aops_end (hK _ (dwK [1, 3, 4, 6] ?_))
 clear hK K
 refine dw_seq (dwR fun K hK => ?_)
 repeat refine evF ?_
 refine clF rfl ⟨rfl, _, rfl⟩ (by omega) (by first | exact may8) (areTwins_no ⟨false, f.t1, f.o2, f.t2, false, f.t3, false, f.t4⟩ ⟨false, f'.t1, f'.o2, f'.t2, false, f'.t3, false, f'.t4⟩ M N v u hM hN hlM hlN hn) ?_
 rintro _ rfl
 repeat refine evF ?_
 refine aops_end (hK _ (dwK [1, 3, 4, 6, 10, 11] ?_))
 clear hK K
 refine dw_seq ?_
 refine dw_seq (dwR fun K hK => ?_)
 repeat refine evF ?_
 refine aops_end (hK _ (dwK [1, 3, 4, 6, 27] ?_))
 clear hK K
 refine dwI (fun hb => ?_) (fun hb => ?_)
 ·refine dw_seq (dwR fun K hK => ?_)
  repeat refine evF ?_
  refine aops_end (hK _ (dwK [8, 9] ?_))
  clear hK K
  exact dw_ret (fin_ret Try.results6 (.two (.plain _ _ rfl) (.plain _ _ rfl)) (by decide) rfl)
 ·cases hb
set_option maxRecDepth 8000 in
set_option maxHeartbeats 0 in
theorem implSep_yes (f f' : NF) (M N : Net) (v u d : Nat) (so : Option Nat) (hM : nodeB M v = true) (hN : nodeB N u = true) (hs : Small M) (hs' : Small N) (hsym : Sym N.ends) (hlM : M.ends.length ≤ 400) (hlN : N.ends.length ≤ 400) (hiM : M.ids.length ≤ 2097152) (hiN : N.ids.length ≤ 2097152) (hv : v < M.ends.length) (hu : u < N.ends.length)
 (hf : Fine (unionN M N)) (hin : (unionN M N).inputs.length = (unionN M N).ends.length) (hul : (unionN M N).ends.length = M.ends.length + N.ends.length) (hd : IsSd (unionN M N) d) (hso : SepOf (unionN M N) d v (u + M.ends.length) so) :
 DCalls Try.prog 6 [.agg (netC f M), .c (.p (.int .i64 v)), .agg (netC f' N), .c (.p (.int .i64 u))] (fun r => r = [.c (.p (.int .i64 (so.getD 0 : Nat))), .c (.p (.bool so.isSome))]) := by
 have hR := hf.rng (by omega)
 have hdl := hd.lt hR
 have htw := sep_twins hR (by omega) (by omega) hso
 refine dcalls_of Try.func6 rfl (by rw [Try.ntmps6]; simp) fun w0 => ?_
 rw [Try.ntmps6]
 have dfx := dfxDpl
 simp only [initE, argsL, Arg.av, netC, endss, ints, ends]
 refine dw_seq (dwR fun K hK => ?_)
 repeat refine evF ?_
 refine aops_end (hK _ (dwK [1, 3, 4, 6] ?_))
 clear hK K
 refine dw_seq (dwR fun K hK => ?_)
 repeat refine evF ?_
 refine clF rfl ⟨rfl, _, rfl⟩ (by omega) (by first | exact may8) (areTwins_yes ⟨false, f.t1, f.o2, f.t2, false, f.t3, false, f.t4⟩ ⟨false, f'.t1, f'.o2, f'.t2, false, f'.t3, false, f'.t4⟩ M N v u d hM hN hs hs' hsym hlM hlN hiM hiN hv hu hf hin hul hd) ?_
 rintro _ rfl
 repeat refine evF ?_
 rw [htw]
 refine aops_end (hK _ (dwK [1, 3, 4, 6, 10, 11] ?_))
 clear hK K
 refine dw_seq ?_
 refine dw_seq (dwR fun K hK => ?_)
 repeat refine evF ?_
 refine aops_end (hK _ (dwK [1, 3, 4, 6, 27] ?_))
 clear hK K
 refine dwI (fun hb => ?_) (fun hb => ?_)
 ·have hno : so = none := by
   cases so with
   | none => rfl
   | some s => simp at hb
  subst hno
  refine dw_seq (dwR fun K hK => ?_)
  repeat refine evF ?_
  refine aops_end (hK _ (dwK [8, 9] ?_))
  clear hK K
  exact dw_ret (fin_ret Try.results6 (.two (.plain _ _ rfl) (.plain _ _ rfl)) (by decide) rfl)
 ·obtain ⟨s, rfl⟩ : ∃ s, so = some s := by
   cases so with
   | none => simp at hb
   | some s => exact ⟨s, rfl⟩
  obtain ⟨hs1, hs2, hs3⟩ := hso
  clear htw hb
  refine dw_skip ?_
  show DW _ _ _ _ _
  refine dw_seq (dwR fun K hK => ?_)
  repeat refine evF ?_
  refine clF rfl ⟨rfl, _, rfl⟩ (by omega) (by first | exact may14) (joined_d ⟨false, f.t1, f.o2, f.t2, false, f.t3, false, f.t4⟩ ⟨false, f'.t1, f'.o2, f'.t2, false, f'.t3, false, f'.t4⟩ M N hs hs' (by omega) (by omega) hsym) ?_
  rintro _ rfl
  repeat refine evF ?_
  refine aops_end (hK _ (dwK [1, 3, 4, 12] ?_))
  clear hK K
  generalize hU : unionN M N = U at *
  generalize hx : u + M.ends.length = x at *
  have hx' : ((M.ends.length : Int) + (u : Int)) = (x : Int) := by omega
  refine dw_seq (dwR fun K hK => ?_)
  repeat refine evF ?_
  refine clF rfl ⟨rfl, _, rfl⟩ (by omega) (by first | exact may15) (implCls0 ⟨true, 38, true, 40, true, 3, true, 3⟩ U hf hin (by omega) (by omega)) ?_
  rintro _ rfl
  repeat refine evF ?_
  refine aops_end (hK _ (dwK [1, 3, 4, 12, 13] ?_))
  clear hK K
  refine dw_seq (dwR fun K hK => ?_)
  repeat refine evF ?_
  refine aops_end (hK _ (dwK [1, 3, 4, 12, 13, 14] ?_))
  clear hK K
  refine dw_seq (dw_block ?_)
  refine dw_loopP (X := Nat) (fun t => t ≤ s) (fun t => [(14, .c (.p (.int .i64 t)))]) (fun t => [((13, 0), ⟨none, [.sl true 3 1 ((vcls U t).map iC)]⟩)]) (fun t => s - t) 0 (Nat.zero_le _) (by first | rfl | (simp only [bunK, C.at, C.put, List.dropLast, List.isPrefixOf, Nat.reduceMul, Nat.reduceLT, Nat.reduceLeDiff, Nat.reduceBEq, Nat.reduceEqDiff, reduceCtorEq, Nat.reduceAdd, ↓reduceIte, Int.natCast_zero] <;> rfl)) ?_
  rintro t ht
  intro E hE
  simp only [bunK, C.at, C.put, List.dropLast, List.isPrefixOf, Nat.reduceMul, Nat.reduceLT, Nat.reduceLeDiff, Nat.reduceBEq, Nat.reduceEqDiff, reduceCtorEq, Nat.reduceAdd, ↓reduceIte] at hE
  subst hE
  have hvl : v < (vcls U t).length := by rw [vcls_len]; omega
  have hxl : x < (vcls U t).length := by rw [vcls_len]; omega
  refine dw_seq ?_
  have dfx := And.intro dfx (And.intro @sepDepthSt7.eq_def @hx')
  refine dw_seq (dwRD sepDepthSt7 (fun j r => match j with | _ => True) fun K hK => ?_)
  repeat refine dvF ?_
  refine dops_end (hK _ (dwK [1, 3, 4, 12, 13, 14, 45] ?_))
  clear hK K
  refine dwI (fun hb => ?_) (fun hb => ?_)
  ·have htd : t < s := by
    rcases Nat.lt_or_ge t s with h | h
    ·exact h
    ·have : t = s := by omega
     subst this
     exact absurd (by simpa using hb) hs2
   refine dw_skip ?_
   show DW _ _ _ _ _
   refine dw_seq (dw_block ?_)
   refine dwR fun K hK => ?_
   repeat refine evF ?_
   refine clF rfl ⟨rfl, _, rfl⟩ (by omega) (by first | exact may15) (implCls ⟨true, 38, true, 40, true, 3, true, 3⟩ true 3 U t hf hin (by omega) (by omega)) ?_
   rintro _ rfl
   repeat refine evF ?_
   refine aops_end (hK _ (dwK [1, 3, 4, 12, 13, 14] ?_))
   clear hK K
   refine dwR fun K hK => ?_
   repeat refine evF ?_
   have dfk := @castS
   refine aops_end (hK _ ?_)
   clear hK K
   show ∃ x, _ ∧ _ ∧ Weak _ _
   refine ⟨t + 1, ?_, ?_, weakFk [1, 3, 4, 12, 13, 14]⟩
   ·omega
   ·omega
  ·have htd : t = s := by
    rcases Nat.lt_or_ge t s with h | h
    ·exact absurd (hs3 t h) (by simpa using hb)
    ·omega
   refine dw_leave3 ?_
   refine dw_keep [14] (by simp only [bunK, C.at, C.put, List.dropLast, List.isPrefixOf, Nat.reduceMul, Nat.reduceLT, Nat.reduceLeDiff, Nat.reduceBEq, Nat.reduceEqDiff, reduceCtorEq, Nat.reduceAdd, ↓reduceIte]; exact rfl) ?_
   refine dw_seq (dwR fun K hK => ?_)
   repeat refine evF ?_
   refine aops_end (hK _ (dwK [8, 9] ?_))
   clear hK K
   exact dw_ret (fin_ret Try.results6 (.two (.plain _ _ rfl) (.plain _ _ rfl)) (by decide) (by rw [htd]; rfl))
end
section
open Go Go.RowKit
theorem isDepth_d (t : Int) : DCalls Try.prog 21 [.c (.p (.int .i64 t))] (fun r => r = [.c (.p (.bool (inB t 0 80)))]) := dcalls_v fun w vs h1 h2 => by
 obtain ⟨u, rfl, g1⟩ := args1 h1 h2
 rw [argI g1]
 clear h1 h2 g1
 go_enter Try.func21, Try.ntmps21
 go_wp2_with (go_at_call 40; refine (within_any _ _ _ _).mono ?_; rintro e w1 ⟨rfl, rfl⟩)
 go_ret
 exact ⟨rfl, Below.refl _ _⟩
theorem dfxDpm : type_of% (And.intro tab27 (And.intro tab25 (And.intro tab3 (And.intro tab24 (And.intro @if_pos.{1} (And.intro @netO.eq_1 (And.intro @rowi (And.intro @getDi @trivial)))))))) := And.intro tab27 (And.intro tab25 (And.intro tab3 (And.intro tab24 (And.intro @if_pos.{1} (And.intro @netO.eq_1 (And.intro @rowi (And.intro @getDi @trivial)))))))
set_option maxRecDepth 8000 in
set_option maxHeartbeats 0 in
theorem classesAt_d (f : NF) (N : Net) (t : Nat) (hf : Fine N) (hin : N.inputs.length = N.ends.length) (hl : N.ends.length ≤ 1000) (hp : 0 < N.ends.length) (ht : t ≤ 1000) :
 DCalls Try.prog 22 [.agg (netC f N), .c (.p (.int .i64 t))] (fun r => r = [.own false [.sl true 3 1 ((vcls N t).map iC)]]) := by
 refine dcalls_of Try.func22 rfl (by rw [Try.ntmps22]; simp) fun w0 => ?_
 rw [Try.ntmps22]
 have dfx := dfxDpm
 simp only [initE, argsL, Arg.av, netC, endss, ints, ends]
 refine dw_seq (dwR fun K hK => ?_)
 repeat refine evF ?_
 refine aops_end (hK _ (dwK [1, 2] ?_))
 clear hK K
 refine dw_seq (dwR fun K hK => ?_)
 repeat refine evF ?_
 refine clF rfl ⟨rfl, _, rfl⟩ (by omega) (by first | exact may15) (implCls0 ⟨false, f.t1, f.o2, f.t2, false, f.t3, false, f.t4⟩ N hf hin hl hp) ?_
 rintro _ rfl
 repeat refine evF ?_
 refine aops_end (hK _ (dwK [1, 2, 5] ?_))
 clear hK K
 refine dw_seq ?_
 refine dw_seq (dwR fun K hK => ?_)
 repeat refine evF ?_
 refine aops_end (hK _ (dwK [2, 5, 8, 9] ?_))
 clear hK K
 refine dw_block ?_
 refine dw_loopP (X := Nat) (fun i => i ≤ t) (fun i => [(9, .c (.p (.int .i64 i)))]) (fun i => [((5, 0), ⟨none, [.sl true 3 1 ((vcls N i).map iC)]⟩)]) (fun i => t - i) 0 (Nat.zero_le _) (by first | rfl | (simp only [bunK, C.at, C.put, List.dropLast, List.isPrefixOf, Nat.reduceMul, Nat.reduceLT, Nat.reduceLeDiff, Nat.reduceBEq, Nat.reduceEqDiff, reduceCtorEq, Nat.reduceAdd, ↓reduceIte, Int.natCast_zero] <;> rfl)) ?_
 rintro i hi
 intro E hE
 simp only [bunK, C.at, C.put, List.dropLast, List.isPrefixOf, Nat.reduceMul, Nat.reduceLT, Nat.reduceLeDiff, Nat.reduceBEq, Nat.reduceEqDiff, reduceCtorEq, Nat.reduceAdd, ↓reduceIte] at hE
 subst hE
 refine dw_seq (dwR fun K hK => ?_)
 repeat refine evF ?_
 refine aops_end (hK _ (dwK [2, 5, 8, 9, 10] ?_))
 clear hK K
 refine dw_seq (dwI (fun hb => ?_) (fun hb => ?_))
 ·have hit : i < t := by simp at hb; omega
  refine dw_skip ?_
  show DW _ _ _ _ _
  refine dw_seq (dw_block ?_)
  refine dwR fun K hK => ?_
  repeat refine evF ?_
  refine clF rfl ⟨rfl, _, rfl⟩ (by omega) (by first | exact may15) (implCls ⟨false, f.t1, f.o2, f.t2, false, f.t3, false, f.t4⟩ true 3 N i hf hin hl hp) ?_
  rintro _ rfl
  repeat refine evF ?_
  refine aops_end (hK _ (dwK [2, 5, 8, 9] ?_))
  clear hK K
  refine dwR fun K hK => ?_
  repeat refine evF ?_
  have dfk := @castS
  refine aops_end (hK _ ?_)
  clear hK K
  show ∃ x, _ ∧ _ ∧ Weak _ _
  refine ⟨i + 1, ?_, ?_, weakFk [2, 5, 8, 9]⟩
  ·omega
  ·omega
 ·have hit : i = t := by simp at hb; omega
  subst hit
  refine dw_leave3 ?_
  refine dw_keep [5] (by simp only [bunK, C.at, C.put, List.dropLast, List.isPrefixOf, Nat.reduceMul, Nat.reduceLT, Nat.reduceLeDiff, Nat.reduceBEq, Nat.reduceEqDiff, reduceCtorEq, Nat.reduceAdd, ↓reduceIte]; exact rfl) ?_
  refine dw_seq (dwR fun K hK => ?_)
  repeat refine evF ?_
  refine aops_end (hK _ (dwK [4] ?_))
  clear hK K
  exact dw_ret (fin_ret Try.results22 (.one (.own _ _ _ _ rfl rfl (own1 (owned_ints _ _)))) (by decide) rfl)
def sameViewSt4 : Nat → Stat
 | 0 => ⟨[12], [], [], [29], [], []⟩
 | 1 => ⟨[1], [], [], [30], [], []⟩
 | 2 => ⟨[29, 30], [(12, 1)], [], [31], [], []⟩
 | 3 => ⟨[31], [(12, 2)], [], [32], [], []⟩
 | 4 => ⟨[12], [], [], [33], [], []⟩
 | 5 => ⟨[5], [(5, 1)], [], [34], [], []⟩
 | 6 => ⟨[34], [(5, 1)], [], [35], [], []⟩
 | 7 => ⟨[35], [], [], [36], [], []⟩
 | 8 => ⟨[3], [], [], [37], [], []⟩
 | 9 => ⟨[36, 37], [], [], [38], [], []⟩
 | 10 => ⟨[33, 38], [(12, 1)], [], [39], [], []⟩
 | 11 => ⟨[39], [(12, 2)], [], [40], [], []⟩
 | 12 => ⟨[32, 40], [], [], [41], [], []⟩
 | 13 => ⟨[41], [], [], [10], [], []⟩
 | 14 => ⟨[], [], [], [11], [], []⟩
 | _ => ⟨[], [], [], [], [], []⟩
set_option maxRecDepth 8000 in
set_option maxHeartbeats 0 in
theorem sameView_yes (f f' : NF) (M N : Net) (v u d : Nat) (hM : nodeB M v = true) (hN : nodeB N u = true) (hs : Small M) (hs' : Small N) (hsym : Sym N.ends) (hlM : M.ends.length ≤ 400) (hlN : N.ends.length ≤ 400) (hiM : M.ids.length ≤ 2097152) (hiN : N.ids.length ≤ 2097152) (hv : v < M.ends.length) (hu : u < N.ends.length)
 (hf : Fine (unionN M N)) (hin : (unionN M N).inputs.length = (unionN M N).ends.length) (hul : (unionN M N).ends.length = M.ends.length + N.ends.length) (hd : d ≤ 80) :
 DCalls Try.prog 9 [.agg (netC f M), .c (.p (.int .i64 v)), .agg (netC f' N), .c (.p (.int .i64 u)), .c (.p (.int .i64 d))] (fun r => r = [.c (.p (.bool (decide (gi (vcls (unionN M N) d) v = gi (vcls (unionN M N) d) (u + M.ends.length))))), .c (.p (.bool true))]) := by
 have hok : (nodeB M v && nodeB N u) = true := by rw [hM, hN]; rfl
 have hdep : inB (d : Int) 0 80 = true := by unfold inB; simp; omega
 have hvl : v < (vcls (unionN M N) d).length := by rw [vcls_len]; omega
 have hxl : M.ends.length + u < (vcls (unionN M N) d).length := by rw [vcls_len]; omega
 rw [Nat.add_comm u]
 refine dcalls_of Try.func9 rfl (by rw [Try.ntmps9]; simp) fun w0 => ?_
 rw [Try.ntmps9]
 have dfx := dfxDpm
 simp only [initE, argsL, Arg.av, netC, endss, ints, ends]
 refine dw_seq (dwR fun K hK => ?_)
 repeat refine evF ?_
 refine aops_end (hK _ (dwK [1, 3, 4, 5, 7] ?_))
 clear hK K
 refine dw_seq ?_
 refine dw_seq (dwR fun K hK => ?_)
 repeat refine evF ?_
 refine clF rfl ⟨rfl, _, rfl⟩ (by omega) (by first | exact may19) (nodesOk_d ⟨false, f.t1, f.o2, f.t2, false, f.t3, false, f.t4⟩ ⟨false, f'.t1, f'.o2, f'.t2, false, f'.t3, false, f'.t4⟩ M N v u hiM hiN (by omega) (by omega)) ?_
 rintro _ rfl
 repeat refine evF ?_
 rw [hok]
 repeat refine evF ?_
 refine cgF rfl rfl ⟨rfl, _, rfl⟩ (by omega) (by first | exact may21) (isDepth_d d) ?_
 rintro _ rfl
 repeat refine evF ?_
 rw [hdep]
 repeat refine evF ?_
 refine aops_end (hK _ (dwK [1, 3, 4, 5, 7, 23] ?_))
 clear hK K
 refine dwI (fun hb => ?_) (fun hb => ?_)
 ·cases hb
 ·refine dw_skip ?_
  show DW _ _ _ _ _
  refine dw_seq (dwR fun K hK => ?_)
  repeat refine evF ?_
  refine clF rfl ⟨rfl, _, rfl⟩ (by omega) (by first | exact may14) (joined_d ⟨false, f.t1, f.o2, f.t2, false, f.t3, false, f.t4⟩ ⟨false, f'.t1, f'.o2, f'.t2, false, f'.t3, false, f'.t4⟩ M N hs hs' (by omega) (by omega) hsym) ?_
  rintro _ rfl
  repeat refine evF ?_
  refine clF rfl ⟨rfl, _, rfl⟩ (by omega) (by first | exact may22) (classesAt_d ⟨true, 38, true, 40, true, 3, true, 3⟩ (unionN M N) d hf hin (by omega) (by omega) (by omega)) ?_
  rintro _ rfl
  repeat refine evF ?_
  refine aops_end (hK _ (dwK [1, 3, 5, 12] ?_))
  clear hK K
  generalize hx : M.ends.length + u = x at *
  have hx' : ((M.ends.length : Int) + (u : Int)) = (x : Int) := by omega
  have dfx := And.intro dfx (And.intro @sameViewSt4.eq_def @hx')
  refine dw_seq (dwRD sameViewSt4 (fun j r => match j with | _ => True) fun K hK => ?_)
  repeat refine dvF ?_
  refine dops_end (hK _ (dwK [10, 11] ?_))
  clear hK K
  exact dw_ret (fin_ret Try.results9 (.two (.plain _ _ rfl) (.plain _ _ rfl)) (by decide) (by rw [ibeq]))
end
section
open Go Go.RowKit
theorem vfold {s : List Int} {g : Nat → Nat} : ∀ (es : List (Int × Int)) (a : Int), a ≤ 1000001 → (∀ e ∈ es, gi s e.1.toNat = (g e.1.toNat : Int)) → es.foldl (fun a e => lst (a + gi s e.1.toNat) 1000001) a = lst (a + (sumE g es : Int)) 1000001
 | [], a, ha, _ => by
  unfold sumE lst
  simp only [List.foldl_nil, List.map_nil, List.sum_nil]
  split <;> omega
 | e :: es, a, ha, h => by
  rw [List.foldl_cons, vfold es _ (by unfold lst; split <;> omega) fun x hx => h x (List.mem_cons_of_mem _ hx), h e List.mem_cons_self]
  have : sumE g (e :: es) = g e.1.toNat + sumE g es := by unfold sumE; rw [List.map_cons, List.sum_cons]
  rw [this]
  unfold lst
  split <;> split <;> split <;> omega
theorem vsz_amt {N : Net} (hg : goodB N = true) : ∀ t v, v < N.ends.length → gi (vsz N t) v = (amt N 1000001 1 (fun _ p => 1 + p) t v : Int)
 | 0, v, hv => by
  unfold vsz amt
  rw [gi_lt (by simpa using hv), List.getElem_replicate]; rfl
 | t + 1, v, hv => by
  unfold vsz amt vsStep
  rw [gi_lt (by simpa using hv), List.getElem_map, List.getElem_range]
  unfold vsum
  rw [vfold (g := amt N 1000001 1 (fun _ p => 1 + p) t) _ 1 (by omega) fun e he => ?_]
  ·unfold lst
   split <;> omega
  ·obtain ⟨i, hi, rfl⟩ := List.getElem_of_mem he
   obtain ⟨u, p, h1, h2, -⟩ := (good_row hg hv).2.2.2.2 i hi
   rw [gp_lt hi] at h1
   rw [h1]
   exact vsz_amt hg t u h2
theorem vsz_list {N : Net} (hg : goodB N = true) (t : Nat) : ((List.range N.ends.length).map fun v => (amt N 1000001 1 (fun _ p => 1 + p) t v : Int)) = vsz N t := by
 apply List.ext_getElem
 ·rw [vsz_len]; simp
 ·intro v h1 h2
  rw [List.getElem_map, List.getElem_range, ← vsz_amt hg t v (by simpa using h1), gi_lt h2]
set_option maxRecDepth 100000 in
set_option maxHeartbeats 1000000 in
theorem vs1_any (w : World) : LeafF w 29 #[] 1 := by
 refine ⟨Enters.of Try.func29 (by kernel_rfl) rfl, fun x W hW => ?_⟩
 show Calls Try.prog 29 #[.int .i64 (x : Nat)] W _
 go_enter Try.func29, Try.ntmps29
 go_wp2_with fail
 go_ret
 exact ⟨rfl, Below.refl _ _⟩
set_option maxRecDepth 100000 in
set_option maxHeartbeats 1000000 in
theorem vs2_any (w : World) (n : Nat) : WholeF w 30 #[] n 1000001 (fun _ p => 1 + p) := by
 refine ⟨Enters.of Try.func30 (by kernel_rfl) rfl, fun v p W hW hv hp => ?_⟩
 show Calls Try.prog 30 #[.int .i64 (v : Nat), .int .i64 (p : Nat)] W _
 have hp2 : p ≤ 6000006 := by omega
 clear hv hp
 go_enter Try.func30, Try.ntmps30
 go_wp2_with fail
 go_ret
 exact ⟨by show Ending.returned (.int .i64 (1 + (p : Int))) = Ending.returned (.int .i64 ((1 + p : Nat) : Int)); rw [show (1 : Int) + (p : Int) = ((1 + p : Nat) : Int) by omega], Below.refl _ _⟩
theorem args5 {w : World} {vs : Array Value} {a b c d e : Arg} (h1 : vs.size = 5) (h2 : ∀ (i : Nat) (t : Arg), [a, b, c, d, e][i]? = some t → ∃ u, vs[i]? = some u ∧ ArgOk w t u) : ∃ u v x y z, vs = #[u, v, x, y, z] ∧ ArgOk w a u ∧ ArgOk w b v ∧ ArgOk w c x ∧ ArgOk w d y ∧ ArgOk w e z := by
 obtain ⟨u, g1, g2⟩ := h2 0 a rfl
 obtain ⟨v, g3, g4⟩ := h2 1 b rfl
 obtain ⟨x, g5, g6⟩ := h2 2 c rfl
 obtain ⟨y, g7, g8⟩ := h2 3 d rfl
 obtain ⟨z, g9, g10⟩ := h2 4 e rfl
 refine ⟨u, v, x, y, z, ?_, g2, g4, g6, g8, g10⟩
 apply Array.ext_getElem?
 intro i
 rcases (by omega : i = 0 ∨ i = 1 ∨ i = 2 ∨ i = 3 ∨ i = 4 ∨ 5 ≤ i) with rfl | rfl | rfl | rfl | rfl | hi
 ·rw [g1]; rfl
 ·rw [g3]; rfl
 ·rw [g5]; rfl
 ·rw [g7]; rfl
 ·rw [g9]; rfl
 ·rw [Array.getElem?_eq_none (by omega), Array.getElem?_eq_none (by simpa using hi)]
theorem viewAmounts_d (f : NF) (N : Net) (t : Nat) (hg : goodB N = true) (hne : 0 < N.ends.length) (ht : t ≤ 1000) :
 DCalls Try.prog 28 [.agg (netC f N), .c (.p (.int .i64 t)), .c (.p (.int .i64 1000001)), .c (.p (.func (.func 29) #[] #[])), .c (.p (.func (.func 30) #[] #[]))] (fun r => r = [.own false [.sl true 3 1 ((vsz N t).map iC)]]) := dcalls_I fun w vs h1 h2 => by
 obtain ⟨a, b, c, d, e, rfl, g1, g2, g3, g4, g5⟩ := args5 h1 h2
 rw [argI g2, argI g3, show d = _ from ro_p g4, show e = _ from ro_p g5, ← vsz_list hg]
 exact viewAmounts_any a N t 1000001 1 _ _ _ #[] #[] w (argN g1) hg hne ht (by omega) (by omega) (vs1_any w) (vs2_any w _) fun v p hp => by omega
theorem dfxDpv : type_of% (And.intro tab27 (And.intro tab25 (And.intro tab3 (And.intro tab24 (And.intro @if_pos.{1} (And.intro @netO.eq_1 (And.intro @rowi (And.intro @getDi @trivial)))))))) := And.intro tab27 (And.intro tab25 (And.intro tab3 (And.intro tab24 (And.intro @if_pos.{1} (And.intro @netO.eq_1 (And.intro @rowi (And.intro @getDi @trivial)))))))
set_option maxRecDepth 8000 in
set_option maxHeartbeats 0 in
theorem implSize_yes (f : NF) (N : Net) (v t : Nat) (hn : nodeB N v = true) (hv : v < N.ends.length) (hl : N.ends.length ≤ 1000) (hi : N.ids.length ≤ 2097152) (ht : t ≤ 80) :
 DCalls Try.prog 11 [.agg (netC f N), .c (.p (.int .i64 v)), .c (.p (.int .i64 t))] (fun r => r = if gi (vsz N t) v > 1000000 then [.c (.p (.int .i64 0)), .c (.p (.bool false))] else [.c (.p (.int .i64 (gi (vsz N t) v))), .c (.p (.bool true))]) := by
 have hdep : inB (t : Int) 0 80 = true := by unfold inB; simp; omega
 have hn' : goodB N = true ∧ inB (v : Int) 0 ((N.ends.length : Int) - 1) = true := by simpa [nodeB] using hn
 obtain ⟨hg, hi2⟩ := hn'
 have hvl : v < (vsz N t).length := by rw [vsz_len]; exact hv
 refine dcalls_of Try.func11 rfl (by rw [Try.ntmps11]; simp) fun w0 => ?_
 rw [Try.ntmps11]
 have dfx := dfxDpv
 simp only [initE, argsL, Arg.av, netC, endss, ints, ends]
 refine dw_seq (dwR fun K hK => ?_)
 repeat refine evF ?_
 refine aops_end (hK _ (dwK [1, 2, 3] ?_))
 clear hK K
 refine dw_seq ?_
 refine dw_seq (dwR fun K hK => ?_)
 repeat refine evF ?_
 refine clF rfl ⟨rfl, _, rfl⟩ (by omega) (by first | exact may26) (IsNetwork_d ⟨false, f.t1, f.o2, f.t2, false, f.t3, false, f.t4⟩ N hi) ?_
 rintro _ rfl
 repeat refine evF ?_
 rw [hg]
 repeat refine evF ?_
 refine cgF rfl rfl ⟨rfl, _, rfl⟩ (by omega) (by first | exact may27) (hasNode_d ⟨false, f.t1, f.o2, f.t2, false, f.t3, false, f.t4⟩ N v (by omega)) ?_
 rintro _ rfl
 repeat refine evF ?_
 rw [hi2]
 repeat refine evF ?_
 refine cgF rfl rfl ⟨rfl, _, rfl⟩ (by omega) (by first | exact may21) (isDepth_d t) ?_
 rintro _ rfl
 repeat refine evF ?_
 rw [hdep]
 repeat refine evF ?_
 refine aops_end (hK _ (dwK [1, 2, 3, 22] ?_))
 clear hK K
 refine dwI (fun hb => ?_) (fun hb => ?_)
 ·cases hb
 ·refine dw_skip ?_
  show DW _ _ _ _ _
  refine dw_seq (dwR fun K hK => ?_)
  repeat refine evF ?_
  refine clF rfl ⟨rfl, _, rfl⟩ (by omega) (by first | exact may28) (viewAmounts_d ⟨false, f.t1, f.o2, f.t2, false, f.t3, false, f.t4⟩ N t hg (by omega) (by omega)) ?_
  rintro _ rfl
  repeat refine evF ?_
  refine aops_end (hK _ (dwK [1, 8] ?_))
  clear hK K
  refine dw_seq ?_
  refine dw_seq (dwR fun K hK => ?_)
  repeat refine evF ?_
  refine aops_end (hK _ (dwK [1, 8, 30] ?_))
  clear hK K
  refine dwI (fun hb => ?_) (fun hb => ?_)
  ·have hgt : gi (vsz N t) v > 1000000 := by simpa using hb
   refine dw_seq (dwR fun K hK => ?_)
   repeat refine evF ?_
   refine aops_end (hK _ (dwK [6, 7] ?_))
   clear hK K
   exact dw_ret (fin_ret Try.results11 (.two (.plain _ _ rfl) (.plain _ _ rfl)) (by decide) (by rw [if_pos hgt]))
  ·have hgt : ¬ gi (vsz N t) v > 1000000 := by simpa using hb
   refine dw_skip ?_
   show DW _ _ _ _ _
   refine dw_seq (dwR fun K hK => ?_)
   repeat refine evF ?_
   refine aops_end (hK _ (dwK [6, 7] ?_))
   clear hK K
   exact dw_ret (fin_ret Try.results11 (.two (.plain _ _ rfl) (.plain _ _ rfl)) (by decide) (by rw [if_neg hgt]))
end
section
open Go Go.RowKit
theorem dfxDpw : type_of% (And.intro tab27 (And.intro tab25 (And.intro tab3 (And.intro tab24 (And.intro @if_pos.{1} (And.intro @netO.eq_1 (And.intro @rowi (And.intro @getDi @trivial)))))))) := And.intro tab27 (And.intro tab25 (And.intro tab3 (And.intro tab24 (And.intro @if_pos.{1} (And.intro @netO.eq_1 (And.intro @rowi (And.intro @getDi @trivial)))))))
set_option maxRecDepth 8000 in
set_option maxHeartbeats 0 in
theorem implSize_no (f : NF) (N : Net) (v t : Int) (hl : N.ends.length ≤ 1000) (hi : N.ids.length ≤ 2097152) (hn : (nodeB N v && inB t 0 80) = false) :
 DCalls Try.prog 11 [.agg (netC f N), .c (.p (.int .i64 v)), .c (.p (.int .i64 t))] (fun r => r = [.c (.p (.int .i64 0)), .c (.p (.bool false))]) := by
 refine dcalls_of Try.func11 rfl (by rw [Try.ntmps11]; simp) fun w0 => ?_
 rw [Try.ntmps11]
 have dfx := dfxDpw
 simp only [initE, argsL, Arg.av, netC, endss, ints, ends]
 refine dw_seq (dwR fun K hK => ?_)
 repeat refine evF ?_
 refine aops_end (hK _ (dwK [1, 2, 3] ?_))
 clear hK K
 refine dw_seq ?_
 refine dw_seq (dwR fun K hK => ?_)
 repeat refine evF ?_
 refine clF rfl ⟨rfl, _, rfl⟩ (by omega) (by first | exact may26) (IsNetwork_d ⟨false, f.t1, f.o2, f.t2, false, f.t3, false, f.t4⟩ N hi) ?_
 rintro _ rfl
 repeat refine evF ?_
 cases hg : goodB N with
 | false =>
  repeat refine evF ?_
  refine csF ?_
  repeat refine evF ?_
  refine csF ?_
  repeat refine evF ?_
  refine aops_end (hK _ (dwK [1, 2, 3, 22] ?_))
  clear hK K
  refine dwI (fun hb => ?_) (fun hb => ?_)
  ·refine dw_seq (dwR fun K hK => ?_)
   repeat refine evF ?_
   refine aops_end (hK _ (dwK [6, 7] ?_))
   clear hK K
   exact dw_ret (fin_ret Try.results11 (.two (.plain _ _ rfl) (.plain _ _ rfl)) (by decide) rfl)
  ·cases hb
 | true =>
  repeat refine evF ?_
  refine cgF rfl rfl ⟨rfl, _, rfl⟩ (by omega) (by first | exact may27) (hasNode_d ⟨false, f.t1, f.o2, f.t2, false, f.t3, false, f.t4⟩ N v (by omega)) ?_
  rintro _ rfl
  repeat refine evF ?_
  cases hi2 : inB v 0 ((N.ends.length : Int) - 1) with
  | false =>
   repeat refine evF ?_
   refine csF ?_
   repeat refine evF ?_
   refine aops_end (hK _ (dwK [1, 2, 3, 22] ?_))
   clear hK K
   refine dwI (fun hb => ?_) (fun hb => ?_)
   ·refine dw_seq (dwR fun K hK => ?_)
    repeat refine evF ?_
    refine aops_end (hK _ (dwK [6, 7] ?_))
    clear hK K
    exact dw_ret (fin_ret Try.results11 (.two (.plain _ _ rfl) (.plain _ _ rfl)) (by decide) rfl)
   ·cases hb
  | true =>
   have ht : inB t 0 80 = false := by simpa [nodeB, hg, hi2] using hn
   repeat refine evF ?_
   refine cgF rfl rfl ⟨rfl, _, rfl⟩ (by omega) (by first | exact may21) (isDepth_d t) ?_
   rintro _ rfl
   repeat refine evF ?_
   rw [ht]
   repeat refine evF ?_
   refine aops_end (hK _ (dwK [1, 2, 3, 22] ?_))
   clear hK K
   refine dwI (fun hb => ?_) (fun hb => ?_)
   ·refine dw_seq (dwR fun K hK => ?_)
    repeat refine evF ?_
    refine aops_end (hK _ (dwK [6, 7] ?_))
    clear hK K
    exact dw_ret (fin_ret Try.results11 (.two (.plain _ _ rfl) (.plain _ _ rfl)) (by decide) rfl)
   ·cases hb
end
section
open Go Go.RowKit
theorem nodeB_nat {N : Net} {x : Int} (h : nodeB N x = true) : ∃ v : Nat, x = v ∧ v < N.ends.length ∧ goodB N = true ∧ N.ends.length ≤ 40 := by
 have h' : goodB N = true ∧ inB x 0 ((N.ends.length : Int) - 1) = true := by simpa [nodeB] using h
 obtain ⟨h1, h2⟩ := h'
 have h3 := inB_iff.1 h2
 have h4 := inB_iff.1 (goodB_iff.1 h1).1
 exact ⟨x.toNat, by omega, by omega, h1, by omega⟩
structure SepAns (f f' : NF) (M N : Net) (x y sd : Int) (ok tw one : Bool) : Prop where
 impl : DCalls Try.prog 6 [.agg (netC f M), .c (.p (.int .i64 x)), .agg (netC f' N), .c (.p (.int .i64 y))] (fun r => r = [.c (.p (.int .i64 sd)), .c (.p (.bool ok))])
 spec : DCalls Try.prog 7 [.agg (netC f M), .c (.p (.int .i64 x)), .agg (netC f' N), .c (.p (.int .i64 y))] (fun r => r = [.c (.p (.int .i64 sd)), .c (.p (.bool ok))])
 twins : DCalls Try.prog 8 [.agg (netC f M), .c (.p (.int .i64 x)), .agg (netC f' N), .c (.p (.int .i64 y))] (fun r => r = [.c (.p (.bool tw)), .c (.p (.bool one))])
 how : (ok = false ∧ one = false) ∨ (one = true ∧ tw = !ok)
 at_ : ok = true → 0 ≤ sd ∧ sd ≤ 80 ∧ DCalls Try.prog 9 [.agg (netC f M), .c (.p (.int .i64 x)), .agg (netC f' N), .c (.p (.int .i64 y)), .c (.p (.int .i64 sd))] (fun r => r = [.c (.p (.bool false)), .c (.p (.bool true))])
 before : ok = true → 0 < sd → DCalls Try.prog 9 [.agg (netC f M), .c (.p (.int .i64 x)), .agg (netC f' N), .c (.p (.int .i64 y)), .c (.p (.int .i64 (sd - 1)))] (fun r => r = [.c (.p (.bool true)), .c (.p (.bool true))])
theorem sepOf_ex (U : Net) (d v x : Nat) : ∃ so, SepOf U d v x so := by
 have key : ∀ k, k ≤ d + 1 → (∀ t, t < k → gi (vcls U t) v = gi (vcls U t) x) ∨ ∃ s, s < k ∧ gi (vcls U s) v ≠ gi (vcls U s) x ∧ ∀ t, t < s → gi (vcls U t) v = gi (vcls U t) x := fun k => by
  induction k with
  | zero => intro _; exact .inl fun t ht => absurd ht (by omega)
  | succ k ih =>
   intro hk
   rcases ih (by omega) with h | ⟨s, h1, h2, h3⟩
   ·by_cases he : gi (vcls U k) v = gi (vcls U k) x
    ·exact .inl fun t ht => by
      rcases Nat.lt_or_ge t k with h4 | h4
      ·exact h t h4
      ·have : t = k := by omega
       subst this; exact he
    ·exact .inr ⟨k, by omega, he, h⟩
   ·exact .inr ⟨s, by omega, h2, h3⟩
 rcases key (d + 1) (Nat.le_refl _) with h | ⟨s, h1, h2, h3⟩
 ·exact ⟨none, fun t ht => h t (by omega)⟩
 ·exact ⟨some s, by omega, h2, h3⟩
theorem sep_all (f f' : NF) (M N : Net) (x y : Int) (hM : Tame M) (hN : Tame N) : ∃ sd ok tw one, SepAns f f' M N x y sd ok tw one := by
 have lM := hM.len
 have lN := hN.len
 have iM := hM.ids
 have iN := hN.ids
 cases hn : (nodeB M x && nodeB N y) with
 | false => exact ⟨0, false, false, false, implSep_no f f' M N x y (by omega) (by omega) (by omega) (by omega) hn, specSep_no f f' M N x y hn, areTwins_no f f' M N x y (by omega) (by omega) (by omega) (by omega) hn, (.inl ⟨rfl, rfl⟩), (fun h => by cases h), (fun h => by cases h)⟩
 | true =>
  rw [Bool.and_eq_true] at hn
  obtain ⟨h1, h2⟩ := hn
  obtain ⟨v, rfl, hv, gM, sM⟩ := nodeB_nat h1
  obtain ⟨u, rfl, hu, gN, sN⟩ := nodeB_nat h2
  have iM2 := (goodB_iff.1 gM).2.2.1
  have iN2 := (goodB_iff.1 gN).2.2.1
  have hf : Fine (unionN M N) := (goodB_fine gM).union (goodB_fine gN) iM2
  have hul : (unionN M N).ends.length = M.ends.length + N.ends.length := by simp [unionN, unionE]
  have hin : (unionN M N).inputs.length = (unionN M N).ends.length := by rw [hul]; simp [unionN]; omega
  have hsym := (goodB_fine gN).sym
  have hR := hf.rng (by omega)
  obtain ⟨d, hd⟩ := sd_ex hR
  have hdl := hd.lt hR
  obtain ⟨so, hso⟩ := sepOf_ex (unionN M N) d v (u + M.ends.length)
  have htw := sep_twins hR (by omega) (by omega) hso
  have C1 := implSep_yes f f' M N v u d so h1 h2 hM.small hN.small hsym (by omega) (by omega) (by omega) (by omega) hv hu hf hin hul hd hso
  have C2 := specSep_yes f f' M N v u d so h1 h2 hM.small hN.small hsym (by omega) (by omega) hv hu hf hin hul hd hso
  have C3 := areTwins_yes f f' M N v u d h1 h2 hM.small hN.small hsym (by omega) (by omega) (by omega) (by omega) hv hu hf hin hul hd
  rw [htw] at C3
  refine ⟨_, _, _, _, C1, C2, C3, .inr ⟨rfl, rfl⟩, fun hk => ?_, fun hk h0 => ?_⟩
  ·cases so with
   | none => cases hk
   | some s =>
    obtain ⟨g1, g2, g3⟩ := hso
    have C4 := sameView_yes f f' M N v u s h1 h2 hM.small hN.small hsym (by omega) (by omega) (by omega) (by omega) hv hu hf hin hul (by omega)
    rw [decide_eq_false g2] at C4
    exact ⟨by simp, by simp; omega, C4⟩
  ·cases so with
   | none => cases hk
   | some s =>
    obtain ⟨g1, g2, g3⟩ := hso
    have h0 : 0 < s := by simpa using h0
    have C4 := sameView_yes f f' M N v u (s - 1) h1 h2 hM.small hN.small hsym (by omega) (by omega) (by omega) (by omega) hv hu hf hin hul (by omega)
    rw [decide_eq_true (g3 (s - 1) (by omega))] at C4
    have : ((s - 1 : Nat) : Int) = (((some s).getD 0 : Nat) : Int) - 1 := by simp; omega
    rw [this] at C4
    exact C4
structure SizeAns (f : NF) (N : Net) (x t s : Int) (two : Bool) : Prop where
 impl : DCalls Try.prog 11 [.agg (netC f N), .c (.p (.int .i64 x)), .c (.p (.int .i64 t))] (fun r => r = [.c (.p (.int .i64 s)), .c (.p (.bool two))])
 spec : DCalls Try.prog 12 [.agg (netC f N), .c (.p (.int .i64 x)), .c (.p (.int .i64 t))] (fun r => r = [.c (.p (.int .i64 s)), .c (.p (.bool two))])
 parts : two = true → 0 < t → ∃ (v : Nat) (z : List Int), x = v ∧ v < N.ends.length ∧ s = psum z (gl N.ends v) ∧ s ≤ 1000000 ∧ (∀ j, 0 ≤ gi z j) ∧ ∀ e ∈ gl N.ends v, DCalls Try.prog 11 [.agg (netC f N), .c (.p (.int .i64 e.1)), .c (.p (.int .i64 (t - 1)))] (fun r => r = [.c (.p (.int .i64 (gi z e.1.toNat))), .c (.p (.bool true))])
theorem size_all (f : NF) (N : Net) (x t : Int) (hN : Tame N) : ∃ s two, SizeAns f N x t s two := by
 have lN := hN.len
 have iN := hN.ids
 cases hn : nodeB N x with
 | false => exact ⟨0, false, implSize_no f N x t (by omega) (by omega) (by rw [hn]; rfl), ViewSize_no1 f N x t hn, fun h => by cases h⟩
 | true =>
  cases ht : inB t 0 80 with
  | false => exact ⟨0, false, implSize_no f N x t (by omega) (by omega) (by rw [hn, ht]; rfl), ViewSize_no2 f N x t hn ht, fun h => by cases h⟩
  | true =>
   obtain ⟨v, rfl, hv, gN, sN⟩ := nodeB_nat hn
   have ht2 := inB_iff.1 ht
   obtain ⟨k, rfl⟩ := Int.eq_ofNat_of_zero_le ht2.1
   have C1 := implSize_yes f N v k hn hv (by omega) (by omega) (by omega)
   have C2 := ViewSize_yes f N v k hn hv (by omega) (by omega)
   by_cases hb : gi (vsz N k) v > 1000000
   ·simp only [if_pos hb] at C1 C2
    exact ⟨_, _, C1, C2, fun h => by cases h⟩
   ·simp only [if_neg hb] at C1 C2
    refine ⟨_, _, C1, C2, fun _ hk => ?_⟩
    obtain ⟨j, rfl⟩ : ∃ j, k = j + 1 := ⟨k - 1, by omega⟩
    obtain ⟨g1, g2⟩ := size_parts hv hb
    refine ⟨v, vsz N j, rfl, hv, g1, by omega, fun i => (vsz_in N j i).1, fun e he => ?_⟩
    obtain ⟨q, p, rfl, hq, -, -⟩ := (goodB_fine gN).at_ hv he
    have hnq : nodeB N (q : Int) = true := by
     simp only [nodeB, gN, Bool.true_and]
     exact inB_iff.2 (by omega)
    have C3 := implSize_yes f N q j hnq hq (by omega) (by omega) (by omega)
    have hs := g2 _ he
    have hs : ¬ gi (vsz N j) q > 1000000 := by simpa using hs
    simp only [if_neg hs] at C3
    have e1 : ((j + 1 : Nat) : Int) - 1 = (j : Int) := by omega
    rw [e1]
    simpa using C3
end
section
open Go Go.RowKit
theorem getDz {t : TypeId} {ess : List (List (Int × Int))} {k : Nat} (h : k < ess.length) : (ess.map (esC t)).getD k [] = [C.sl true t 2 ((gl ess k).map eC)] := getDe (o := true) (t := t) h
theorem sums_ex {z : List Int} (h0 : ∀ j, 0 ≤ gi z j) (es : List (Int × Int)) {s : Int} (hs : s = psum z es) (hm : s ≤ 1000000) : ∃ S : Nat → Int, S 0 = 1 ∧ (∀ i, i < es.length → S (i + 1) = S i + gi z (gp es i).1.toNat) ∧ S es.length = s ∧ ∀ i, i ≤ es.length → 1 ≤ S i ∧ S i ≤ 1000000 := by
 have hst : ∀ i, i < es.length → (es.take (i + 1)).foldl (fun a e => a + gi z e.1.toNat) (1 : Int) = (es.take i).foldl (fun a e => a + gi z e.1.toNat) 1 + gi z (gp es i).1.toNat := fun i hi => by
  rw [fold_take hi, gp_lt hi]
 have hfull : (es.take es.length).foldl (fun a e => a + gi z e.1.toNat) (1 : Int) = s := by rw [List.take_length]; exact hs.symm
 have hup : ∀ k i, i + k = es.length → (es.take i).foldl (fun a e => a + gi z e.1.toNat) (1 : Int) ≤ s := fun k => by
  induction k with
  | zero => intro i hi; rw [show i = es.length by omega, hfull]; exact Int.le_refl _
  | succ k ih =>
   intro i hi
   have := ih (i + 1) (by omega)
   rw [hst i (by omega)] at this
   have := h0 (gp es i).1.toNat
   omega
 have hlo : ∀ i, i ≤ es.length → 1 ≤ (es.take i).foldl (fun a e => a + gi z e.1.toNat) (1 : Int) := fun i => by
  induction i with
  | zero => intro _; simp
  | succ i ih =>
   intro hi
   have := ih (by omega)
   rw [hst i (by omega)]
   have := h0 (gp es i).1.toNat
   omega
 exact ⟨fun i => (es.take i).foldl (fun a e => a + gi z e.1.toNat) 1, rfl, hst, hfull, fun i hi => ⟨hlo i hi, by have := hup (es.length - i) i (by omega); dsimp only; omega⟩⟩
theorem dfxLaSeparated : type_of% (And.intro tab27 (And.intro @rowi (And.intro tab24 (And.intro tab38 (And.intro @if_pos.{1} (And.intro tab40 (And.intro tab3 (And.intro @netZ.eq_1 (And.intro bool4 (And.intro @bne_self_eq_false.{0} (And.intro @beq_self_eq_true.{0} (And.intro @Bool.not_true (And.intro @Bool.true_beq (And.intro @Bool.false_beq (And.intro @getDz (And.intro @getDp @trivial)))))))))))))))) := And.intro tab27 (And.intro @rowi (And.intro tab24 (And.intro tab38 (And.intro @if_pos.{1} (And.intro tab40 (And.intro tab3 (And.intro @netZ.eq_1 (And.intro bool4 (And.intro @bne_self_eq_false.{0} (And.intro @beq_self_eq_true.{0} (And.intro @Bool.not_true (And.intro @Bool.true_beq (And.intro @Bool.false_beq (And.intro @getDz (And.intro @getDp @trivial)))))))))))))))
set_option maxRecDepth 8000 in
set_option maxHeartbeats 0 in
theorem FnSeparated_c (a b : List Int) (hA : BytesAny a) (hB : BytesAny b) : ACalls Try.prog 3 [.c (codeC a), .c (codeC b)] (fun r => r = [.c (.p (.bool true))]) := by
 refine acalls_of (by simp [Arg.isIo]) Try.func3 rfl (by rw [Try.ntmps3]; simp) fun w0 => ?_
 rw [Try.ntmps3]
 have dfx := dfxLaSeparated
 simp only [initE, argsL, Arg.av, codeC]
 refine dw_seq (dwR fun K hK => ?_)
 repeat refine evF ?_
 refine aops_end (hK _ (dwK [0, 1] ?_))
 clear hK K
 refine dw_seq ?_
 refine dw_seq (dwR fun K hK => ?_)
 repeat refine evF ?_
 refine clF rfl ⟨rfl, _, rfl⟩ (by omega) (by first | exact may4) (big_d a b hA) ?_
 rintro _ rfl
 repeat refine evF ?_
 refine aops_end (hK _ (dwK [0, 1, 33] ?_))
 clear hK K
 refine dwI (fun hb => ?_) (fun hb => ?_)
 ·refine dw_seq (dwR fun K hK => ?_)
  repeat refine evF ?_
  refine aops_end (hK _ (dwK [4] ?_))
  clear hK K
  exact dw_ret (fin_retA Try.results3 (.one (.re _ _ (.plain _ _ rfl))) (by decide) rfl)
 ·obtain ⟨hby, hby2⟩ := bigB_no hb hA hB
  refine dw_skip ?_
  show DW _ _ _ _ _
  refine dw_seq (dwR fun K hK => ?_)
  repeat refine evF ?_
  refine caF rfl ⟨rfl, _, rfl⟩ (by omega) (by first | exact may5) (DrawSeparatingDepth_c a hby) ?_
  rintro _ ⟨M, N, x, y, rfl, hM, hN⟩
  repeat refine evF ?_
  refine aops_end (hK _ (dwK [1, 5, 6, 7, 8] ?_))
  clear hK K
  obtain ⟨sd, ok, tw, one, hS⟩ := sep_all NFz NFz M N x y hM hN
  refine dw_seq (dwR fun K hK => ?_)
  repeat refine evF ?_
  refine clF rfl ⟨rfl, _, rfl⟩ (by omega) (by first | exact may6) (hS.impl) ?_
  rintro _ rfl
  repeat refine evF ?_
  refine aops_end (hK _ (dwK [1, 5, 6, 7, 8, 9, 10] ?_))
  clear hK K
  refine dw_seq (dwR fun K hK => ?_)
  repeat refine evF ?_
  refine clF rfl ⟨rfl, _, rfl⟩ (by omega) (by first | exact may7) (hS.spec) ?_
  rintro _ rfl
  repeat refine evF ?_
  refine aops_end (hK _ (dwK [1, 5, 6, 7, 8, 9, 10, 11, 12] ?_))
  clear hK K
  refine dw_seq (dwR fun K hK => ?_)
  repeat refine evF ?_
  refine clF rfl ⟨rfl, _, rfl⟩ (by omega) (by first | exact may8) (hS.twins) ?_
  rintro _ rfl
  repeat refine evF ?_
  refine aops_end (hK _ (dwK [1, 5, 6, 7, 8, 9, 10, 11, 12, 13, 14] ?_))
  clear hK K
  refine dw_join (X := Unit) (fun z => True) (fun z => mkE 182 [(1, .c (.sl false 5 1 (b.map bC))), (5, .box), (6, .c (.p (.int .i64 x))), (7, .box), (8, .c (.p (.int .i64 y))), (9, .c (.p (.int .i64 sd))), (10, .c (.p (.bool ok)))] [((5, 0), ⟨some 27, [.sl false 38 1 (M.ends.map (esC 40)), .sl false 3 1 (M.ids.map iC), .sl false 3 1 (M.inputs.map iC)]⟩), ((7, 0), ⟨some 27, [.sl false 38 1 (N.ends.map (esC 40)), .sl false 3 1 (N.ids.map iC), .sl false 3 1 (N.inputs.map iC)]⟩)]) ?_ ?_
  ·rcases hS.how with ⟨rfl, rfl⟩ | ⟨rfl, rfl⟩
   ·refine dw_seq (dwR fun K hK => ?_)
    repeat refine evF ?_
    refine aops_end (hK _ (dwK [1, 5, 6, 7, 8, 9, 10, 87] ?_))
    clear hK K
    refine dwI (fun hb => ?_) (fun hb => ?_)
    ·cases hb
    ·refine dw_skip ?_
     show ∃ x, _ ∧ Weak _ _
     refine ⟨(), ?_, (weak_keep _ [1, 5, 6, 7, 8, 9, 10]).trans (Weak.of_eq (by simp only [bunK, C.at, C.put, List.dropLast, List.isPrefixOf, Nat.reduceMul, Nat.reduceLT, Nat.reduceLeDiff, Nat.reduceBEq, Nat.reduceEqDiff, reduceCtorEq, Nat.reduceAdd, ↓reduceIte] <;> exact rfl))⟩
     trivial
   ·cases ok with
    | true =>
     refine dw_seq (dwR fun K hK => ?_)
     repeat refine evF ?_
     refine aops_end (hK _ (dwK [1, 5, 6, 7, 8, 9, 10, 87] ?_))
     clear hK K
     refine dwI (fun hb => ?_) (fun hb => ?_)
     ·cases hb
     ·refine dw_skip ?_
      show ∃ x, _ ∧ Weak _ _
      refine ⟨(), ?_, (weak_keep _ [1, 5, 6, 7, 8, 9, 10]).trans (Weak.of_eq (by simp only [bunK, C.at, C.put, List.dropLast, List.isPrefixOf, Nat.reduceMul, Nat.reduceLT, Nat.reduceLeDiff, Nat.reduceBEq, Nat.reduceEqDiff, reduceCtorEq, Nat.reduceAdd, ↓reduceIte] <;> exact rfl))⟩
      trivial
    | false =>
     refine dw_seq (dwR fun K hK => ?_)
     repeat refine evF ?_
     refine aops_end (hK _ (dwK [1, 5, 6, 7, 8, 9, 10, 87] ?_))
     clear hK K
     refine dwI (fun hb => ?_) (fun hb => ?_)
     ·cases hb
     ·refine dw_skip ?_
      show ∃ x, _ ∧ Weak _ _
      refine ⟨(), ?_, (weak_keep _ [1, 5, 6, 7, 8, 9, 10]).trans (Weak.of_eq (by simp only [bunK, C.at, C.put, List.dropLast, List.isPrefixOf, Nat.reduceMul, Nat.reduceLT, Nat.reduceLeDiff, Nat.reduceBEq, Nat.reduceEqDiff, reduceCtorEq, Nat.reduceAdd, ↓reduceIte] <;> exact rfl))⟩
      trivial
  ·rintro _ -
   refine dw_join (X := Unit) (fun z => True) (fun z => mkE 182 [(1, .c (.sl false 5 1 (b.map bC)))] []) ?_ ?_
   ·refine dw_seq (dwR fun K hK => ?_)
    repeat refine evF ?_
    refine aops_end (hK _ (dwK [1, 5, 6, 7, 8, 9, 88] ?_))
    clear hK K
    refine dwI (fun hb => ?_) (fun hb => ?_)
    ·obtain ⟨hs0, hs80, hsv⟩ := hS.at_ hb
     refine dw_seq (dwR fun K hK => ?_)
     repeat refine evF ?_
     refine clF rfl ⟨rfl, _, rfl⟩ (by omega) (by first | exact may9) (hsv) ?_
     rintro _ rfl
     repeat refine evF ?_
     refine aops_end (hK _ (dwK [1, 5, 6, 7, 8, 9, 15, 16] ?_))
     clear hK K
     refine dw_seq ?_
     refine dw_seq (dwR fun K hK => ?_)
     repeat refine evF ?_
     refine aops_end (hK _ (dwK [1, 5, 6, 7, 8, 9, 102] ?_))
     clear hK K
     refine dwI (fun hb => ?_) (fun hb => ?_)
     ·cases hb
     ·refine dw_skip ?_
      show DW _ _ _ _ _
      refine dw_seq (dwR fun K hK => ?_)
      repeat refine evF ?_
      refine aops_end (hK _ (dwK [1, 5, 6, 7, 8, 9, 104] ?_))
      clear hK K
      refine dwI (fun hb => ?_) (fun hb => ?_)
      ·have hsv2 := hS.before (by assumption) (by simpa using hb)
       refine dw_seq (dwR fun K hK => ?_)
       repeat refine evF ?_
       refine clF rfl ⟨rfl, _, rfl⟩ (by omega) (by first | exact may9) (hsv2) ?_
       rintro _ rfl
       repeat refine evF ?_
       refine aops_end (hK _ (dwK [1, 17, 18] ?_))
       clear hK K
       refine dw_seq (dwR fun K hK => ?_)
       repeat refine evF ?_
       refine aops_end (hK _ (dwK [1, 120] ?_))
       clear hK K
       refine dwI (fun hb => ?_) (fun hb => ?_)
       ·cases hb
       ·refine dw_skip ?_
        show ∃ x, _ ∧ Weak _ _
        refine ⟨(), ?_, (weak_keep _ [1]).trans (Weak.of_eq (by simp only [bunK, C.at, C.put, List.dropLast, List.isPrefixOf, Nat.reduceMul, Nat.reduceLT, Nat.reduceLeDiff, Nat.reduceBEq, Nat.reduceEqDiff, reduceCtorEq, Nat.reduceAdd, ↓reduceIte] <;> exact rfl))⟩
        trivial
      ·refine dw_skip ?_
       show ∃ x, _ ∧ Weak _ _
       refine ⟨(), ?_, (weak_keep _ [1]).trans (Weak.of_eq (by simp only [bunK, C.at, C.put, List.dropLast, List.isPrefixOf, Nat.reduceMul, Nat.reduceLT, Nat.reduceLeDiff, Nat.reduceBEq, Nat.reduceEqDiff, reduceCtorEq, Nat.reduceAdd, ↓reduceIte] <;> exact rfl))⟩
       trivial
    ·refine dw_skip ?_
     show ∃ x, _ ∧ Weak _ _
     refine ⟨(), ?_, (weak_keep _ [1]).trans (Weak.of_eq (by simp only [bunK, C.at, C.put, List.dropLast, List.isPrefixOf, Nat.reduceMul, Nat.reduceLT, Nat.reduceLeDiff, Nat.reduceBEq, Nat.reduceEqDiff, reduceCtorEq, Nat.reduceAdd, ↓reduceIte] <;> exact rfl))⟩
     trivial
   ·rintro _ -
    refine dw_seq (dwR fun K hK => ?_)
    repeat refine evF ?_
    refine caF rfl ⟨rfl, _, rfl⟩ (by omega) (by first | exact may10) (DrawViewSize_c b hby2) ?_
    rintro _ ⟨L, u, t, rfl, hL, ht1, ht2⟩
    repeat refine evF ?_
    refine aops_end (hK _ (dwK [19, 20, 21] ?_))
    clear hK K
    obtain ⟨sz, two, hZ⟩ := size_all NFz L u t hL
    refine dw_seq (dwR fun K hK => ?_)
    repeat refine evF ?_
    refine clF rfl ⟨rfl, _, rfl⟩ (by omega) (by first | exact may11) (hZ.impl) ?_
    rintro _ rfl
    repeat refine evF ?_
    refine aops_end (hK _ (dwK [19, 20, 21, 22, 23] ?_))
    clear hK K
    refine dw_seq (dwR fun K hK => ?_)
    repeat refine evF ?_
    refine clF rfl ⟨rfl, _, rfl⟩ (by omega) (by first | exact may12) (hZ.spec) ?_
    rintro _ rfl
    repeat refine evF ?_
    refine aops_end (hK _ (dwK [19, 20, 21, 22, 23, 24, 25] ?_))
    clear hK K
    refine dw_seq ?_
    refine dw_seq (dwR fun K hK => ?_)
    repeat refine evF ?_
    refine aops_end (hK _ (dwK [19, 20, 21, 22, 23, 148] ?_))
    clear hK K
    refine dwI (fun hb => ?_) (fun hb => ?_)
    ·cases hb
    ·refine dw_skip ?_
     show DW _ _ _ _ _
     refine dw_seq ?_
     cases two with
     | false =>
      refine dw_seq (dwR fun K hK => ?_)
      repeat refine evF ?_
      refine aops_end (hK _ (dwK [19, 20, 21, 22, 153] ?_))
      clear hK K
      refine dwI (fun hb => ?_) (fun hb => ?_)
      ·cases hb
      ·refine dw_skip ?_
       show DW _ _ _ _ _
       refine dw_seq (dwR fun K hK => ?_)
       repeat refine evF ?_
       refine aops_end (hK _ (dwK [4] ?_))
       clear hK K
       exact dw_ret (fin_retA Try.results3 (.one (.re _ _ (.plain _ _ rfl))) (by decide) rfl)
     | true =>
      refine dw_seq (dwR fun K hK => ?_)
      repeat refine evF ?_
      refine aops_end (hK _ (dwK [19, 20, 21, 22, 153] ?_))
      clear hK K
      refine dwI (fun hb => ?_) (fun hb => ?_)
      ·have htp : 0 < t := by simpa using hb
       obtain ⟨v, z, rfl, hv, hs, hs6, hz, hP⟩ := hZ.parts rfl htp
       obtain ⟨S, S0, SS, SL, SB⟩ := sums_ex hz (gl L.ends v) hs hs6
       have hdl := hL.deg v
       unfold dg at hdl
       refine dw_seq (dwR fun K hK => ?_)
       repeat refine evF ?_
       refine aops_end (hK _ (dwK [19, 20, 21, 22, 26] ?_))
       clear hK K
       refine dw_seq ?_
       refine dw_seq (dwR fun K hK => ?_)
       repeat refine evF ?_
       refine aops_end (hK _ (dwK [19, 21, 22, 26, 158, 159, 160] ?_))
       clear hK K
       refine dw_block ?_
       refine dw_loopP (X := Nat) (fun i => i ≤ (gl L.ends v).length) (fun i => [(26, .c (.p (.int .i64 (S i)))), (160, .c (.p (.int .i64 i)))]) (fun i => []) (fun i => (gl L.ends v).length - i) 0 (Nat.zero_le _) (by first | rfl | (simp only [bunK, C.at, C.put, List.dropLast, List.isPrefixOf, Nat.reduceMul, Nat.reduceLT, Nat.reduceLeDiff, Nat.reduceBEq, Nat.reduceEqDiff, reduceCtorEq, Nat.reduceAdd, ↓reduceIte, Int.natCast_zero, S0] <;> rfl)) ?_
       rintro i hi
       intro E hE
       simp only [bunK, C.at, C.put, List.dropLast, List.isPrefixOf, Nat.reduceMul, Nat.reduceLT, Nat.reduceLeDiff, Nat.reduceBEq, Nat.reduceEqDiff, reduceCtorEq, Nat.reduceAdd, ↓reduceIte] at hE
       subst hE
       refine dw_seq (dwR fun K hK => ?_)
       repeat refine evF ?_
       refine aops_end (hK _ (dwK [19, 21, 22, 26, 158, 159, 160, 161] ?_))
       clear hK K
       refine dw_seq (dwI (fun hb => ?_) (fun hb => ?_))
       ·have hil : i < (gl L.ends v).length := by simpa using hb
        have hPi := hP _ (List.getElem_mem hil)
        rw [← gp_lt hil] at hPi
        have h1 := SB i hi
        have h2 := SB (i + 1) hil
        have h3 := SS i hil
        rw [h3] at h2
        refine dw_skip ?_
        show DW _ _ _ _ _
        refine dw_seq (dw_block ?_)
        refine dw_seq (dwR fun K hK => ?_)
        repeat refine evF ?_
        refine aops_end (hK _ (dwK [19, 21, 22, 26, 28, 158, 159, 160] ?_))
        clear hK K
        refine dw_seq (dwR fun K hK => ?_)
        repeat refine evF ?_
        refine clF rfl ⟨rfl, _, rfl⟩ (by omega) (by first | exact may11) (hPi) ?_
        rintro _ rfl
        repeat refine evF ?_
        refine aops_end (hK _ (dwK [19, 21, 22, 26, 29, 30, 158, 159, 160] ?_))
        clear hK K
        refine dw_seq ?_
        refine dw_seq (dwR fun K hK => ?_)
        repeat refine evF ?_
        refine aops_end (hK _ (dwK [19, 21, 22, 26, 29, 158, 159, 160, 174] ?_))
        clear hK K
        refine dwI (fun hb => ?_) (fun hb => ?_)
        ·cases hb
        ·refine dw_skip ?_
         show DW _ _ _ _ _
         refine dwR fun K hK => ?_
         repeat refine evF ?_
         refine aops_end (hK _ (dwK [19, 21, 22, 26, 158, 159, 160] ?_))
         clear hK K
         refine dwR fun K hK => ?_
         repeat refine evF ?_
         have dfk := And.intro @castS @h3
         refine aops_end (hK _ ?_)
         clear hK K
         show ∃ x, _ ∧ _ ∧ Weak _ _
         refine ⟨i + 1, ?_, ?_, weakFk [19, 21, 22, 26, 158, 159, 160]⟩
         ·exact hil
         ·omega
       ·have hil : i = (gl L.ends v).length := by
         have : ¬ (i : Int) < ((gl L.ends v).length : Int) := by simpa using hb
         omega
        subst hil
        refine dw_leave3 ?_
        refine dw_keep [22, 26] (by simp only [bunK, C.at, C.put, List.dropLast, List.isPrefixOf, Nat.reduceMul, Nat.reduceLT, Nat.reduceLeDiff, Nat.reduceBEq, Nat.reduceEqDiff, reduceCtorEq, Nat.reduceAdd, ↓reduceIte]; exact rfl) ?_
        have dfx := And.intro dfx (@SL)
        refine dw_seq (dwR fun K hK => ?_)
        repeat refine evF ?_
        have dfk := @SL
        refine aops_end (hK _ (dwKF [4] ?_))
        clear hK K
        exact dw_ret (fin_retA Try.results3 (.one (.re _ _ (.plain _ _ rfl))) (by decide) rfl)
      ·refine dw_skip ?_
       show DW _ _ _ _ _
       refine dw_seq (dwR fun K hK => ?_)
       repeat refine evF ?_
       refine aops_end (hK _ (dwK [4] ?_))
       clear hK K
       exact dw_ret (fin_retA Try.results3 (.one (.re _ _ (.plain _ _ rfl))) (by decide) rfl)
theorem lawSeparated (v0 v1 : Value) (L0 L1 : Nat) (w : World) (h0 : BytR w v0 L0) (h1 : BytR w v1 L1) : Calls Try.prog 3 #[v0, v1] w (RetV w (.bool true)) := law_of (fun a b hA hB => FnSeparated_c a b hA hB) h0 h1
end
end Go.Proofs.Ytlaahgdikiiahaa
