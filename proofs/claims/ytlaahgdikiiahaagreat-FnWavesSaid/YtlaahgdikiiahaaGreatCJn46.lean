/- Parts of the proof, joined: Dwv, Dws. -/
import Derived.Test.YtlaahgdikiiahaaGreatCDbf
import Derived.Test.YtlaahgdikiiahaaGreatCJn21
import Derived.Test.YtlaahgdikiiahaaGreatCDpg
import Derived.Test.YtlaahgdikiiahaaGreatCJn26
set_option linter.unusedSimpArgs false
set_option linter.unusedVariables false
namespace Go.Proofs.YtlaahgdikiiahaaGreat
section
open Go Go.RowKit
theorem mmF {a b : Int} : (if false = true then max a b else min a b) = min a b := if_neg (by simp)
theorem addA (a b c : Int) : a + (b + c) = a + b + c := (Int.add_assoc a b c).symm
theorem sumL0 (f : Nat → Int) : sumL [] f = 0 := rfl
theorem snt0 (p : Int) : snt p 0 = 0 := rfl
theorem zI0 : zI [] = [] := rfl
def Sx (T : List Nat) (v i : Nat) : Nat → Nat → Prop := fun u k => u ∈ T ∨ (u = v ∧ k < i)
theorem sx_next (T : List Nat) (v i : Nat) : Snext (Sx T v i) v i = Sx T v (i + 1) := by
 funext u k
 unfold Snext Sx
 apply propext
 constructor
 ·rintro ((h | ⟨h1, h2⟩) | ⟨h1, h2⟩)
  ·exact .inl h
  ·exact .inr ⟨h1, by omega⟩
  ·exact .inr ⟨h1, by omega⟩
 ·rintro (h | ⟨h1, h2⟩)
  ·exact .inl (.inl h)
  ·rcases Nat.lt_or_ge k i with h3 | h3
   ·exact .inl (.inr ⟨h1, h3⟩)
   ·exact .inr ⟨h1, by omega⟩
theorem sx_zero (T : List Nat) (v : Nat) : Sx T v 0 = fun u _ => u ∈ T := by funext u k; simp [Sx]
theorem prts_zero {N : Net} {root : Nat} (hr : root < N.ends.length) : prts N (wdn N root 0) = List.replicate N.ends.length (-1) := by
 refine (tab_eq (by simp) fun w hw => ?_).symm
 have : gi (wdn N root 0) w ≤ 0 := by
  show gi ((List.replicate N.ends.length (-1)).set root 0) w ≤ 0
  rw [gi_set (by simpa using hr)]
  split
  ·exact Int.le_refl 0
  ·simp [gi, hw]
 unfold prt
 rw [if_pos this]
 simp [gi, hw]
theorem sumL_bnd {F : List Nat} {f : Nat → Int} {k : Nat} (h : ∀ u ∈ F, 0 ≤ f u ∧ f u ≤ k) : 0 ≤ sumL F f ∧ sumL F f ≤ F.length * k := by
 induction F with
 | nil => simp [sumL]
 | cons a F ih =>
  have h1 : sumL (a :: F) f = f a + sumL F f := by
   show (F.foldl (fun a u => a + f u) (0 + f a)) = _
   rw [foldl_add]; omega
  have h2 := ih fun u hu => h u (by simp [hu])
  have h3 := h a (by simp)
  rw [h1, List.length_cons]
  push_cast
  rw [Int.add_mul]
  omega
theorem msgs_small {N : Net} {root : Nat} (hn : N.ends.length ≤ 40) (hd : ∀ w, w < N.ends.length → (gl N.ends w).length ≤ 6) {r : Nat} (hr : r ≤ 40) : 0 ≤ msgs N root r ∧ msgs N root r ≤ 9600 := by
 obtain ⟨h1, h2⟩ := msgs_bnd (root := root) hd r
 have : r * (6 * N.ends.length) ≤ 40 * 240 := Nat.mul_le_mul hr (by omega)
 have h3 : ((r * (6 * N.ends.length) : Nat) : Int) ≤ 9600 := by omega
 push_cast at h3
 omega
theorem good_ids {N : Net} (h : goodB N = true) : N.ids.length ≤ 40 := by
 have h1 := (goodB_iff.1 h).2.1
 have h2 := good_len h
 unfold idsB at h1
 simp only [Bool.and_eq_true, Bool.or_eq_true, beq_iff_eq] at h1
 omega
theorem front0 {N : Net} {root : Nat} (hs : Sym N.ends) (hr : root < N.ends.length) : ∀ w, w ∈ [root] ↔ w < N.ends.length ∧ gi (wdn N root 0) w = (0 : Nat) := fun w => by
 have hok := wdn_ok hs hr 0
 rw [List.mem_singleton]
 exact ⟨fun e => by rw [e]; exact ⟨hr, hok.rt⟩, fun h => hok.zero w h.1 (by simpa using h.2)⟩
def waveFromSt3 : Nat → Stat
 | 0 => ⟨[2], [(2, 1)], [2], [28], [], []⟩
 | 1 => ⟨[28], [], [2], [29], [], []⟩
 | 2 => ⟨[2], [(2, 1)], [2], [30], [], []⟩
 | 3 => ⟨[30], [], [2], [31], [], []⟩
 | 4 => ⟨[29], [], [29], [8], [(29, 1)], []⟩
 | 5 => ⟨[31], [], [31], [9], [(31, 1)], []⟩
 | _ => ⟨[], [], [], [], [], []⟩
def waveFromSt21 : Nat → Stat
 | 0 => ⟨[9], [], [], [74], [], []⟩
 | 1 => ⟨[18], [], [], [75], [], []⟩
 | 2 => ⟨[8], [], [], [76], [], []⟩
 | 3 => ⟨[18], [], [], [77], [], []⟩
 | 4 => ⟨[12], [], [], [78], [], []⟩
 | 5 => ⟨[17], [(17, 1)], [], [79], [], []⟩
 | 6 => ⟨[79], [(17, 1)], [], [80], [], []⟩
 | 7 => ⟨[74, 75], [(9, 1)], [], [81], [], []⟩
 | 8 => ⟨[81, 78], [(9, 2)], [], [], [(9, 2)], []⟩
 | 9 => ⟨[76, 77], [(8, 1)], [], [82], [], []⟩
 | 10 => ⟨[82, 80], [(8, 2)], [], [], [(8, 2)], []⟩
 | _ => ⟨[], [], [], [], [], []⟩
def waveFromSt24 : Nat → Stat
 | 0 => ⟨[8], [], [], [93], [], []⟩
 | 1 => ⟨[18], [], [], [94], [], []⟩
 | 2 => ⟨[8], [], [], [95], [], []⟩
 | 3 => ⟨[18], [], [], [96], [], []⟩
 | 4 => ⟨[95, 96], [(8, 1)], [], [97], [], []⟩
 | 5 => ⟨[97], [(8, 2)], [], [98], [], []⟩
 | 6 => ⟨[17], [(17, 1)], [], [99], [], []⟩
 | 7 => ⟨[99], [(17, 1)], [], [100], [], []⟩
 | 8 => ⟨[98, 100], [], [], [101], [], []⟩
 | 9 => ⟨[93, 94], [(8, 1)], [], [102], [], []⟩
 | 10 => ⟨[102, 101], [(8, 2)], [], [], [(8, 2)], []⟩
 | _ => ⟨[], [], [], [], [], []⟩
theorem dfxDwv : type_of% (And.intro tab27 (And.intro tab25 (And.intro tab3 (And.intro tab24 (And.intro tab67 (And.intro @if_pos.{1} (And.intro @rowi (And.intro tab69 (And.intro @getDe (And.intro @getDp (And.intro @toNat0 (And.intro @toNat1 (And.intro @mmF @trivial))))))))))))) := And.intro tab27 (And.intro tab25 (And.intro tab3 (And.intro tab24 (And.intro tab67 (And.intro @if_pos.{1} (And.intro @rowi (And.intro tab69 (And.intro @getDe (And.intro @getDp (And.intro @toNat0 (And.intro @toNat1 (And.intro @mmF @trivial))))))))))))
set_option maxRecDepth 8000 in
set_option maxHeartbeats 0 in
theorem implWaveFrom_d (f : NF) (N : Net) (root : Nat) (hg : goodB N = true) (hr : root < N.ends.length) : DCalls Tryz.prog 7 [.agg (netC f N), .c (.p (.int .i64 root))] (fun r => r = [.own false [.sl true 3 1 ((wpar N root).map iC)], .own false [.sl true 3 1 ((dists N root).map iC)], .c (.p (.int .i64 (wmsg N root))), .c (.p (.bool true))]) := by -- params impl.Network, int
 have hs : Sym N.ends := (goodB_fine hg).sym
 have hn := (good_len hg).2
 have hd : ∀ w, w < N.ends.length → (gl N.ends w).length ≤ 6 := fun w hw => good_deg hg hw
 have hin : inB (root : Int) 0 ((N.ends.length : Int) - 1) = true := inB_iff.2 (by omega)
 have hids : N.ids.length ≤ 2097152 := by have := good_ids hg; omega
 refine dcalls_of Tryz.func7 rfl (by rw [Tryz.ntmps7]; simp) fun w0 => ?_
 rw [Tryz.ntmps7]
 have dfx := dfxDwv
 simp only [initE, argsL, Arg.av, netC, endss, ints, ends]
 refine dw_seq (dwR fun K hK => ?_)
 repeat refine evF ?_
 refine aops_end (hK _ (dwK [1, 2] ?_))
 clear hK K
 refine dw_seq ?_
 refine dw_seq (dwR fun K hK => ?_)
 repeat refine evF ?_
 refine clF rfl ⟨rfl, _, rfl⟩ (by omega) (by first | exact may32 | exact may33) (IsNetwork_d ⟨false, f.t1, f.o2, f.t2, false, f.t3, false, f.t4⟩ N hids) ?_
 rintro _ rfl
 repeat refine evF ?_
 have dfx := And.intro dfx (@hg)
 repeat refine evF ?_
 refine cgF rfl rfl ⟨rfl, _, rfl⟩ (by omega) (by first | exact may32 | exact may33) (hasNode_d ⟨false, f.t1, f.o2, f.t2, false, f.t3, false, f.t4⟩ N root (by omega)) ?_
 rintro _ rfl
 repeat refine evF ?_
 have dfx := And.intro dfx (@hin)
 repeat refine evF ?_
 have dfk := And.intro @hin @hg
 refine aops_end (hK _ (dwKF [1, 2, 27] ?_))
 clear hK K
 refine dwI (fun hb => ?_) (fun hb => ?_)
 ·cases hb
 ·refine dw_skip ?_
  show DW _ _ _ _ _
  have dfx := And.intro dfx (@waveFromSt3.eq_def)
  refine dw_seq (dwRD waveFromSt3 (fun j r => match j with | 1 => r = [.own false [.sl true 3 1 ((List.replicate N.ends.length (-1)).map iC)]] | 3 => r = [.own false [.sl true 3 1 ((List.replicate N.ends.length (-1)).map iC)]] | _ => True) fun K hK => ?_)
  repeat refine dvF ?_
  have dfx := And.intro dfx (@waveFromSt3.eq_def)
  refine dcF rfl ⟨rfl, _, rfl⟩ (by omega) (by first | exact may34) (noMatching_d ⟨false, f.t1, f.o2, f.t2, false, f.t3, false, f.t4⟩ N (by omega)) ?_
  rintro _ rfl
  repeat refine dvF ?_
  have dfx := And.intro dfx (@waveFromSt3.eq_def)
  refine dcF rfl ⟨rfl, _, rfl⟩ (by omega) (by first | exact may34) (noMatching_d ⟨false, f.t1, f.o2, f.t2, false, f.t3, false, f.t4⟩ N (by omega)) ?_
  rintro _ rfl
  repeat refine dvF ?_
  refine dops_end (hK _ (dwK [1, 2, 8, 9] ?_))
  clear hK K
  have hrl : (List.replicate N.ends.length (-1 : Int)).length = N.ends.length := List.length_replicate
  have dfx := And.intro dfx (@hrl)
  refine dw_seq (dwR fun K hK => ?_)
  repeat refine evF ?_
  have dfk := @puti
  refine aops_end (hK _ (dwKF [1, 2, 8, 9] ?_))
  clear hK K
  refine dw_seq (dwR fun K hK => ?_)
  repeat refine evF ?_
  refine aops_end (hK _ (dwK [1, 2, 8, 9, 10] ?_))
  clear hK K
  refine dw_seq (dwR fun K hK => ?_)
  repeat refine evF ?_
  refine aops_end (hK _ (dwK [2, 8, 9, 10, 11] ?_))
  clear hK K
  refine dw_seq ?_
  refine dw_seq (dwR fun K hK => ?_)
  repeat refine evF ?_
  refine aops_end (hK _ (dwK [2, 8, 9, 10, 11, 12] ?_))
  clear hK K
  refine dw_block ?_
  refine dw_loopP (X := Nat × List Nat) (fun x => x.1 ≤ N.ends.length ∧ x.2.Nodup ∧ ∀ w, w ∈ x.2 ↔ w < N.ends.length ∧ gi (wdn N root x.1) w = x.1) (fun x => [(10, .c (.p (.int .i64 (msgs N root x.1)))), (12, .c (.p (.int .i64 ((x.1 : Int) + 1))))]) (fun x => [((8, 0), ⟨none, [.sl true 3 1 ((prts N (wdn N root x.1)).map iC)]⟩), ((9, 0), ⟨none, [.sl true 3 1 ((wdn N root x.1).map iC)]⟩), ((11, 0), ⟨none, [.sl true 3 1 ((zI x.2).map iC)]⟩)]) (fun x => N.ends.length - x.1) (0, [root]) ⟨Nat.zero_le _, by simp, front0 hs hr⟩ (by first | rfl | (simp only [bunK, C.at, C.put, List.dropLast, List.isPrefixOf, Nat.reduceMul, Nat.reduceLT, Nat.reduceLeDiff, Nat.reduceBEq, Nat.reduceEqDiff, reduceCtorEq, Nat.reduceAdd, ↓reduceIte, Int.natCast_zero, prts_zero hr] <;> rfl)) ?_
  rintro ⟨r, F⟩ ⟨hrn, hFd, hF⟩
  intro E hE
  simp only [bunK, C.at, C.put, List.dropLast, List.isPrefixOf, Nat.reduceMul, Nat.reduceLT, Nat.reduceLeDiff, Nat.reduceBEq, Nat.reduceEqDiff, reduceCtorEq, Nat.reduceAdd, ↓reduceIte] at hE
  subst hE
  dsimp only at hrn hFd hF ⊢
  refine dw_seq ?_
  refine dw_seq (dwR fun K hK => ?_)
  repeat refine evF ?_
  refine aops_end (hK _ (dwK [2, 8, 9, 10, 11, 12, 39] ?_))
  clear hK K
  refine dwI (fun hb => ?_) (fun hb => ?_)
  ·refine dw_skip ?_
   show DW _ _ _ _ _
   have hms := msgs_small (root := root) hn hd (r := r) (by omega)
   have hok := wdn_ok hs hr r
   have hFl : F.length ≤ N.ends.length := by
    have := hFd.length_le_of_subset (show F ⊆ List.range N.ends.length from fun x hx => List.mem_range.2 ((hF x).1 hx).1)
    simpa using this
   have hrlt : r < N.ends.length := by
    cases F with
    | nil => simp [zI] at hb
    | cons w F =>
     obtain ⟨h1, h2⟩ := (hF w).1 (by simp)
     have := hok.lt hs h1
     omega
   have hfb : ∀ u ∈ F, 0 ≤ snt (gi (prts N (wdn N root r)) u) (gl N.ends u).length ∧ snt (gi (prts N (wdn N root r)) u) (gl N.ends u).length ≤ (6 : Nat) := fun u hu => by
    have h1 := snt_bnd (gi (prts N (wdn N root r)) u) (gl N.ends u).length
    have h2 := hd u ((hF u).1 hu).1
    omega
   have hzl : (zI F).length = F.length := zI_len F
   refine dw_seq (dw_block ?_)
   refine dw_seq (dwR fun K hK => ?_)
   repeat refine evF ?_
   refine aops_end (hK _ (dwK [2, 8, 9, 10, 11, 12, 13] ?_))
   clear hK K
   refine dw_nil 13 3 1 (by decide) (by simp only [bunK, C.at, C.put, List.dropLast, List.isPrefixOf, Nat.reduceMul, Nat.reduceLT, Nat.reduceLeDiff, Nat.reduceBEq, Nat.reduceEqDiff, reduceCtorEq, Nat.reduceAdd, ↓reduceIte]) [2, 8, 9, 10, 11, 12, 13] (by simp only [bunK, C.at, C.put, List.dropLast, List.isPrefixOf, Nat.reduceMul, Nat.reduceLT, Nat.reduceLeDiff, Nat.reduceBEq, Nat.reduceEqDiff, reduceCtorEq, Nat.reduceAdd, ↓reduceIte]; exact rfl) ?_
   refine dw_seq ?_
   have dfx := And.intro dfx (@hzl)
   refine dw_seq (dwR fun K hK => ?_)
   repeat refine evF ?_
   refine aops_end (hK _ (dwK [2, 8, 9, 10, 11, 12, 13, 42, 43, 44] ?_))
   clear hK K
   refine dw_block ?_
   refine dw_loopP (X := List Int × List Int × List Nat × Nat) (fun x => x.2.2.2 ≤ F.length ∧ WI N root r (fun u _ => u ∈ F.take x.2.2.2) x.1 x.2.1 x.2.2.1) (fun x => [(10, .c (.p (.int .i64 (msgs N root r + sumL (F.take x.2.2.2) (fun u => snt (gi (prts N (wdn N root r)) u) (gl N.ends u).length))))), (44, .c (.p (.int .i64 x.2.2.2)))]) (fun x => [((8, 0), ⟨none, [.sl true 3 1 (x.2.1.map iC)]⟩), ((9, 0), ⟨none, [.sl true 3 1 (x.1.map iC)]⟩), ((13, 0), ⟨none, [.sl true 3 1 ((zI x.2.2.1).map iC)]⟩)]) (fun x => F.length - x.2.2.2) (wdn N root r, prts N (wdn N root r), [], 0) ⟨Nat.zero_le _, WI.start hs hr fun u k h => by simp at h⟩ (by first | rfl | (simp only [bunK, C.at, C.put, List.dropLast, List.isPrefixOf, Nat.reduceMul, Nat.reduceLT, Nat.reduceLeDiff, Nat.reduceBEq, Nat.reduceEqDiff, reduceCtorEq, Nat.reduceAdd, ↓reduceIte, Int.natCast_zero, List.take_zero, sumL0, zI0, List.map_nil, Int.add_zero] <;> rfl)) ?_
   rintro ⟨d1, p1, nx1, a⟩ ⟨ha, hW⟩
   intro E hE
   simp only [bunK, C.at, C.put, List.dropLast, List.isPrefixOf, Nat.reduceMul, Nat.reduceLT, Nat.reduceLeDiff, Nat.reduceBEq, Nat.reduceEqDiff, reduceCtorEq, Nat.reduceAdd, ↓reduceIte] at hE
   subst hE
   dsimp only at ha hW ⊢
   refine dw_seq (dwR fun K hK => ?_)
   repeat refine evF ?_
   refine aops_end (hK _ (dwK [2, 8, 9, 10, 11, 12, 13, 42, 43, 44, 45] ?_))
   clear hK K
   refine dw_seq (dwI (fun hb => ?_) (fun hb => ?_))
   ·have hal : a < F.length := by simpa using hb
    obtain ⟨v, hva⟩ : ∃ v, v = F[a] := ⟨_, rfl⟩
    have hvF : v ∈ F := by rw [hva]; exact List.getElem_mem hal
    obtain ⟨hv, hvr⟩ := (hF v).1 hvF
    have hgv : gi (zI F) a = (v : Int) := by rw [hva]; simp [zI, gi, hal]
    have htk : F.take (a + 1) = F.take a ++ [v] := by rw [hva, List.take_succ_eq_append_getElem hal]
    have hsb := sumL_bnd (F := F.take a) (f := fun u => snt (gi (prts N (wdn N root r)) u) (gl N.ends u).length) (k := 6) fun u hu => hfb u (List.mem_of_mem_take hu)
    rw [List.length_take, Nat.min_eq_left ha] at hsb
    have hdv := hd v hv
    refine dw_skip ?_
    show DW _ _ _ _ _
    refine dw_seq (dw_block ?_)
    have dfx := And.intro dfx (And.intro @hzl @hgv)
    refine dw_seq (dwR fun K hK => ?_)
    repeat refine evF ?_
    refine aops_end (hK _ (dwK [2, 8, 9, 10, 11, 12, 13, 15, 42, 43, 44] ?_))
    clear hK K
    refine dw_seq (dwR fun K hK => ?_)
    repeat refine evF ?_
    refine aops_end (hK _ (dwK [2, 8, 9, 10, 11, 12, 13, 15, 42, 43, 44, 52, 53, 54] ?_))
    clear hK K
    refine dw_block ?_
    refine dw_loopP (X := List Int × List Int × List Nat × Nat) (fun x => x.2.2.2 ≤ (gl N.ends v).length ∧ WI N root r (Sx (F.take a) v x.2.2.2) x.1 x.2.1 x.2.2.1) (fun x => [(10, .c (.p (.int .i64 (msgs N root r + sumL (F.take a) (fun u => snt (gi (prts N (wdn N root r)) u) (gl N.ends u).length) + snt (gi (prts N (wdn N root r)) v) x.2.2.2)))), (54, .c (.p (.int .i64 x.2.2.2)))]) (fun x => [((8, 0), ⟨none, [.sl true 3 1 (x.2.1.map iC)]⟩), ((9, 0), ⟨none, [.sl true 3 1 (x.1.map iC)]⟩), ((13, 0), ⟨none, [.sl true 3 1 ((zI x.2.2.1).map iC)]⟩)]) (fun x => (gl N.ends v).length - x.2.2.2) (d1, p1, nx1, 0) ⟨Nat.zero_le _, by dsimp only; rw [sx_zero]; exact hW⟩ (by first | rfl | (simp only [bunK, C.at, C.put, List.dropLast, List.isPrefixOf, Nat.reduceMul, Nat.reduceLT, Nat.reduceLeDiff, Nat.reduceBEq, Nat.reduceEqDiff, reduceCtorEq, Nat.reduceAdd, ↓reduceIte, Int.natCast_zero, snt0, Int.add_zero] <;> rfl)) ?_
    rintro ⟨d2, p2, nx2, i⟩ ⟨hi, hJ⟩
    intro E hE
    simp only [bunK, C.at, C.put, List.dropLast, List.isPrefixOf, Nat.reduceMul, Nat.reduceLT, Nat.reduceLeDiff, Nat.reduceBEq, Nat.reduceEqDiff, reduceCtorEq, Nat.reduceAdd, ↓reduceIte] at hE
    subst hE
    dsimp only at hi hJ ⊢
    refine dw_seq (dwR fun K hK => ?_)
    repeat refine evF ?_
    refine aops_end (hK _ (dwK [2, 8, 9, 10, 11, 12, 13, 15, 42, 43, 44, 52, 53, 54, 55] ?_))
    clear hK K
    refine dw_seq (dwI (fun hb => ?_) (fun hb => ?_))
    ·have hil : i < (gl N.ends v).length := by simpa using hb
     obtain ⟨hx, hbk, -, -, hgp⟩ := sym_nd hs hv hil
     have hg1 : (gp (gl N.ends v) i).1 = ((nd N v i : Nat) : Int) := by rw [hgp]
     have hg2 : (gp (gl N.ends v) i).2 = ((bk N v i : Nat) : Int) := by rw [hgp]
     have hld := hJ.ld
     have hlp := hJ.lp
     have hpv : gi p2 v = gi (prts N (wdn N root r)) v := (hJ.old v hv (by omega)).2
     have hv1 : v < p2.length := by omega
     have hx1 : nd N v i < d2.length := by omega
     have hx2 : nd N v i < p2.length := by omega
     have hnl : nx2.length ≤ N.ends.length := by
      have := hJ.nodup.length_le_of_subset (show nx2 ⊆ List.range N.ends.length from fun x hx => List.mem_range.2 (hJ.rng x hx).1)
      simpa using this
     have hznl : (zI nx2).length = nx2.length := zI_len nx2
     have hsn := snt_bnd (gi (prts N (wdn N root r)) v) i
     refine dw_skip ?_
     show DW _ _ _ _ _
     refine dw_seq (dw_block ?_)
     refine dw_seq (dwR fun K hK => ?_)
     repeat refine evF ?_
     refine aops_end (hK _ (dwK [2, 8, 9, 10, 11, 12, 13, 15, 16, 17, 42, 43, 44, 52, 53, 54] ?_))
     clear hK K
     refine dw_seq ?_
     have dfx := And.intro dfx (@hpv)
     refine dw_seq (dwR fun K hK => ?_)
     repeat refine evF ?_
     refine aops_end (hK _ (dwK [2, 8, 9, 10, 11, 12, 13, 15, 16, 17, 42, 43, 44, 52, 53, 54, 64] ?_))
     clear hK K
     refine dwI (fun hb => ?_) (fun hb => ?_)
     ·have hip : (i : Int) = gi (prts N (wdn N root r)) v := by simpa using hb
      have hst : snt (gi (prts N (wdn N root r)) v) (i + 1) = snt (gi (prts N (wdn N root r)) v) i := by rw [snt, if_neg (by simpa using hip)]; omega
      refine dw_leave2 ?_
      refine dwK [2, 8, 9, 10, 11, 12, 13, 15, 42, 43, 44, 52, 53, 54] ?_
      refine dwR fun K hK => ?_
      repeat refine evF ?_
      have dfk := And.intro @castS @hst
      refine aops_end (hK _ ?_)
      clear hK K
      show ∃ x, _ ∧ _ ∧ Weak _ _
      refine ⟨(d2, p2, nx2, i + 1), ?_, ?_, weakFk [2, 8, 9, 10, 11, 12, 13, 15, 42, 43, 44, 52, 53, 54]⟩
      ·refine ⟨hil, ?_⟩
       dsimp only
       rw [← sx_next]
       exact hJ.found hs hv hil (wave_up hs hr hv hil hip.symm)
      ·dsimp only; omega
     ·have hip : (i : Int) ≠ gi (prts N (wdn N root r)) v := by simpa using hb
      have hst : snt (gi (prts N (wdn N root r)) v) (i + 1) = snt (gi (prts N (wdn N root r)) v) i + 1 := by rw [snt, if_pos hip]
      refine dw_skip ?_
      show DW _ _ _ _ _
      refine dw_seq (dwR fun K hK => ?_)
      repeat refine evF ?_
      refine aops_end (hK _ (dwK [2, 8, 9, 10, 11, 12, 13, 15, 17, 42, 43, 44, 52, 53, 54] ?_))
      clear hK K
      have dfx := And.intro dfx (@hg1)
      refine dw_seq (dwR fun K hK => ?_)
      repeat refine evF ?_
      refine aops_end (hK _ (dwK [2, 8, 9, 10, 11, 12, 13, 15, 17, 18, 42, 43, 44, 52, 53, 54] ?_))
      clear hK K
      refine dw_seq (dwR fun K hK => ?_)
      repeat refine evF ?_
      refine aops_end (hK _ (dwK [2, 8, 9, 10, 11, 12, 13, 15, 17, 18, 42, 43, 44, 52, 53, 54, 73] ?_))
      clear hK K
      refine dwI (fun hb => ?_) (fun hb => ?_)
      ·have h0 : gi d2 (nd N v i) < 0 := by simpa using hb
       have dfx := And.intro dfx (And.intro @waveFromSt21.eq_def @hg2)
       refine dw_seq (dwRD waveFromSt21 (fun j r => True) fun K hK => ?_)
       repeat refine dvF ?_
       have dfk := @puti
       refine dops_end (hK _ (dwKF [2, 8, 9, 10, 11, 12, 13, 15, 18, 42, 43, 44, 52, 53, 54] ?_))
       clear hK K
       refine dwR fun K hK => ?_
       repeat refine evF ?_
       have dfk := And.intro @snoc_iC @zI_app
       refine aops_end (hK _ (dwKF [2, 8, 9, 10, 11, 12, 13, 15, 42, 43, 44, 52, 53, 54] ?_))
       clear hK K
       refine dwR fun K hK => ?_
       repeat refine evF ?_
       have dfk := And.intro @castS (And.intro @hst @addA)
       refine aops_end (hK _ ?_)
       clear hK K
       show ∃ x, _ ∧ _ ∧ Weak _ _
       refine ⟨(d2.set (nd N v i) ((r : Int) + 1), p2.set (nd N v i) (bk N v i), nx2 ++ [nd N v i], i + 1), ?_, ?_, weakFk [2, 8, 9, 10, 11, 12, 13, 15, 42, 43, 44, 52, 53, 54]⟩
       ·refine ⟨hil, ?_⟩
        dsimp only
        rw [← sx_next]
        exact hJ.first hs hv hil h0
       ·dsimp only; omega
      ·have h0 : 0 ≤ gi d2 (nd N v i) := by simpa using hb
       refine dw_seq (dwR fun K hK => ?_)
       repeat refine evF ?_
       refine aops_end (hK _ (dwK [2, 8, 9, 10, 11, 12, 13, 15, 17, 18, 42, 43, 44, 52, 53, 54, 92] ?_))
       clear hK K
       refine dwI (fun hb => ?_) (fun hb => ?_)
       ·have h1 : gi d2 (nd N v i) = (r : Int) + 1 := by simpa using hb
        have dfx := And.intro dfx (And.intro @waveFromSt24.eq_def @hg2)
        refine dwRD waveFromSt24 (fun j r => True) fun K hK => ?_
        repeat refine dvF ?_
        have dfk := @puti
        refine dops_end (hK _ (dwKF [2, 8, 9, 10, 11, 12, 13, 15, 42, 43, 44, 52, 53, 54] ?_))
        clear hK K
        refine dwR fun K hK => ?_
        repeat refine evF ?_
        have dfk := And.intro @castS (And.intro @hst @addA)
        refine aops_end (hK _ ?_)
        clear hK K
        show ∃ x, _ ∧ _ ∧ Weak _ _
        refine ⟨(d2, p2.set (nd N v i) (min (gi p2 (nd N v i)) (bk N v i)), nx2, i + 1), ?_, ?_, weakFk [2, 8, 9, 10, 11, 12, 13, 15, 42, 43, 44, 52, 53, 54]⟩
        ·refine ⟨hil, ?_⟩
         dsimp only
         rw [← sx_next]
         exact hJ.again hs (fun w hw => hok.bnd w hw) hv hil h1
        ·dsimp only; omega
       ·have h1 : gi d2 (nd N v i) ≠ (r : Int) + 1 := by simpa using hb
        have h2 : 0 ≤ gi (wdn N root r) (nd N v i) := by
         rcases Int.lt_or_le (gi (wdn N root r) (nd N v i)) 0 with h3 | h3
         ·rcases hJ.new _ hx h3 with ⟨h4, -⟩ | ⟨h4, -⟩
          ·omega
          ·exact absurd h4 h1
         ·exact h3
        refine dw_skip ?_
        show DW _ _ _ _ _
        refine dwR fun K hK => ?_
        repeat refine evF ?_
        have dfk := And.intro @castS (And.intro @hst @addA)
        refine aops_end (hK _ ?_)
        clear hK K
        show ∃ x, _ ∧ _ ∧ Weak _ _
        refine ⟨(d2, p2, nx2, i + 1), ?_, ?_, weakFk [2, 8, 9, 10, 11, 12, 13, 15, 42, 43, 44, 52, 53, 54]⟩
        ·refine ⟨hil, ?_⟩
         dsimp only
         rw [← sx_next]
         exact hJ.found hs hv hil h2
        ·dsimp only; omega
    ·have hil : i = (gl N.ends v).length := by
      have : ¬ (i : Int) < ((gl N.ends v).length : Int) := by simpa using hb
      omega
     subst hil
     have hsl : sumL (F.take (a + 1)) (fun u => snt (gi (prts N (wdn N root r)) u) (gl N.ends u).length) = sumL (F.take a) (fun u => snt (gi (prts N (wdn N root r)) u) (gl N.ends u).length) + snt (gi (prts N (wdn N root r)) v) (gl N.ends v).length := by rw [htk, sumL_snoc]
     refine dw_leave3 ?_
     refine dwK [2, 8, 9, 10, 11, 12, 13, 42, 43, 44] ?_
     refine dwR fun K hK => ?_
     repeat refine evF ?_
     have dfk := And.intro @castS (And.intro @hsl @addA)
     refine aops_end (hK _ ?_)
     clear hK K
     show ∃ x, _ ∧ _ ∧ Weak _ _
     refine ⟨(d2, p2, nx2, a + 1), ?_, ?_, weakFk [2, 8, 9, 10, 11, 12, 13, 42, 43, 44]⟩
     ·refine ⟨hal, ?_⟩
      dsimp only
      refine hJ.more fun w hw hw0 j hj => ?_
      rw [htk, List.mem_append, List.mem_singleton]
      obtain ⟨g1, g2, -⟩ := sym_nd hs hw hj
      unfold Sx
      exact or_congr_right ⟨fun e => ⟨e, by rw [← e]; exact g2⟩, fun e => e.1⟩
     ·dsimp only; omega
   ·have hal : a = F.length := by
     have : ¬ (a : Int) < (F.length : Int) := by simpa using hb
     omega
    subst hal
    rw [List.take_length] at hW
    obtain ⟨k1, k2, k3⟩ := hW.done hs hr fun w hw j hj => by
     rw [hF]
     exact ⟨fun e => e.2, fun e => ⟨(sym_nd hs hw hj).1, e⟩⟩
    subst k1 k2
    have hfs := front_sum hFd hF
    have hmm : msgs N root r + sentR N root r = msgs N root (r + 1) := rfl
    refine dw_leave3 ?_
    refine dwK [2, 8, 9, 10, 12, 13] ?_
    refine dwR fun K hK => ?_
    repeat refine evF ?_
    have dfk := And.intro @List.take_length.{0} (And.intro @hfs @hmm)
    refine aops_end (hK _ (dwKF [2, 8, 9, 10, 11, 12] ?_))
    clear hK K
    refine dwR fun K hK => ?_
    repeat refine evF ?_
    have dfk := @castS
    refine aops_end (hK _ ?_)
    clear hK K
    show ∃ x, _ ∧ _ ∧ Weak _ _
    refine ⟨(r + 1, nx1), ?_, ?_, weakFk [2, 8, 9, 10, 11, 12]⟩
    ·exact ⟨by dsimp only; omega, hW.nodup, fun w => by rw [k3]; push_cast; rfl⟩
    ·dsimp only; omega
  ·have hF0 : F = [] := by
    cases F with
    | nil => rfl
    | cons w F => simp [zI] at hb
   subst hF0
   have hz : sentR N root r = 0 := no_front fun w hw e => by have := (hF w).2 ⟨hw, e⟩; simp at this
   obtain ⟨e1, e2, e3⟩ := wave_end hs hr hz hrn
   refine dw_leave3 ?_
   refine dwK [8, 9, 10] ?_
   refine dw_seq (dwR fun K hK => ?_)
   repeat refine evF ?_
   have dfk := And.intro @e1 @e3
   refine aops_end (hK _ (dwKF [4, 5, 6, 7] ?_))
   clear hK K
   exact dw_ret (fin_ret Tryz.results7 (.four (.own _ _ _ _ rfl rfl (own1 (owned_ints _ _))) (.own _ _ _ _ rfl rfl (own1 (owned_ints _ _))) (.plain _ _ rfl) (.plain _ _ rfl)) (by decide) rfl)
end
section
open Go Go.RowKit
theorem gi_rep1 {n j : Nat} {x : Int} (h : j < n) : gi (List.replicate n x) j = x := by simp [gi, h]
theorem dfxDws : type_of% (And.intro tab27 (And.intro tab25 (And.intro tab3 (And.intro tab24 (And.intro tab67 (And.intro @if_pos.{1} (And.intro @rowi (And.intro tab69 (And.intro @getDe (And.intro @getDp (And.intro @toNat0 (And.intro @toNat1 @trivial)))))))))))) := And.intro tab27 (And.intro tab25 (And.intro tab3 (And.intro tab24 (And.intro tab67 (And.intro @if_pos.{1} (And.intro @rowi (And.intro tab69 (And.intro @getDe (And.intro @getDp (And.intro @toNat0 (And.intro @toNat1 @trivial)))))))))))
set_option maxRecDepth 8000 in
set_option maxHeartbeats 0 in
theorem roFree_d (n : Nat) (hn : n ≤ 1000) : DCalls Tryz.prog 81 [.c (.p (.int .i64 n))] (fun r => r = [.own false [.sl true 3 1 ((List.replicate n (-1)).map iC)]]) := by -- params int
 refine dcalls_of Tryz.func81 rfl (by rw [Tryz.ntmps81]; simp) fun w0 => ?_
 rw [Tryz.ntmps81]
 have dfx := dfxDws
 simp only [initE, argsL, Arg.av, netC, endss, ints, ends]
 refine dw_seq (dwR fun K hK => ?_)
 repeat refine evF ?_
 refine aops_end (hK _ (dwK [0] ?_))
 clear hK K
 refine dw_seq (dwR fun K hK => ?_)
 repeat refine evF ?_
 have dfk := @zrows
 refine aops_end (hK _ (dwKF [3] ?_))
 clear hK K
 refine dw_seq ?_
 refine dw_seq (dwR fun K hK => ?_)
 repeat refine evF ?_
 refine aops_end (hK _ (dwK [3, 8, 9] ?_))
 clear hK K
 refine dw_block ?_
 refine dw_loopP (X := Nat) (fun x => x ≤ n) (fun x => [(9, .c (.p (.int .i64 x)))]) (fun x => [((3, 0), ⟨none, [.sl true 3 1 ((mixI n (List.replicate n (-1)) (List.replicate n 0) x).map iC)]⟩)]) (fun x => n - x) 0 (Nat.zero_le _) (by first | rfl | (simp only [bunK, C.at, C.put, List.dropLast, List.isPrefixOf, Nat.reduceMul, Nat.reduceLT, Nat.reduceLeDiff, Nat.reduceBEq, Nat.reduceEqDiff, reduceCtorEq, Nat.reduceAdd, ↓reduceIte, Int.natCast_zero, mixI_zero (n := n) (a := List.replicate n (-1)) (b := List.replicate n 0) (by simp)] <;> rfl)) ?_
 rintro x hx
 intro E hE
 simp only [bunK, C.at, C.put, List.dropLast, List.isPrefixOf, Nat.reduceMul, Nat.reduceLT, Nat.reduceLeDiff, Nat.reduceBEq, Nat.reduceEqDiff, reduceCtorEq, Nat.reduceAdd, ↓reduceIte] at hE
 subst hE
 have hml := mixI_len n (List.replicate n (-1)) (List.replicate n 0) x
 refine dw_seq (dwR fun K hK => ?_)
 repeat refine evF ?_
 refine aops_end (hK _ (dwK [3, 8, 9, 10] ?_))
 clear hK K
 refine dw_seq (dwI (fun hb => ?_) (fun hb => ?_))
 ·have hxl : x < n := by simpa using hb
  refine dw_skip ?_
  show DW _ _ _ _ _
  refine dw_seq (dw_block ?_)
  refine dw_seq (dwR fun K hK => ?_)
  repeat refine evF ?_
  refine aops_end (hK _ (dwK [3, 4, 8, 9] ?_))
  clear hK K
  have dfx := And.intro dfx (@hml)
  refine dwR fun K hK => ?_
  repeat refine evF ?_
  refine aops_end (hK _ (dw_keep [3, 8, 9] (by simp only [bunK, C.at, C.put, List.dropLast, List.isPrefixOf, Nat.reduceMul, Nat.reduceLT, Nat.reduceLeDiff, Nat.reduceBEq, Nat.reduceEqDiff, reduceCtorEq, Nat.reduceAdd, ↓reduceIte , puti, mixI_set (n := n) (b := List.replicate n 0) hxl (gi_rep1 (x := (-1 : Int)) hxl)]; exact rfl) ?_))
  clear hK K
  refine dwR fun K hK => ?_
  repeat refine evF ?_
  have dfk := @castS
  refine aops_end (hK _ ?_)
  clear hK K
  show ∃ x, _ ∧ _ ∧ Weak _ _
  refine ⟨x + 1, ?_, ?_, weakFk [3, 8, 9]⟩
  ·exact hxl
  ·omega
 ·have hxl : x = n := by
   have : ¬ (x : Int) < (n : Int) := by simpa using hb
   omega
  subst hxl
  refine dw_leave3 ?_
  refine dwK [3] ?_
  refine dw_seq (dwR fun K hK => ?_)
  repeat refine evF ?_
  refine aops_end (hK _ (dw_keep [2] (by simp only [bunK, C.at, C.put, List.dropLast, List.isPrefixOf, Nat.reduceMul, Nat.reduceLT, Nat.reduceLeDiff, Nat.reduceBEq, Nat.reduceEqDiff, reduceCtorEq, Nat.reduceAdd, ↓reduceIte , mixI_all (n := x) (a := List.replicate x (-1)) (b := List.replicate x 0) (by simp)]; exact rfl) ?_))
  clear hK K
  exact dw_ret (fin_ret Tryz.results81 (.one (.own _ _ _ _ rfl rfl (own1 (owned_ints _ _)))) (by decide) rfl)
set_option maxRecDepth 8000 in
set_option maxHeartbeats 0 in
theorem l1Own_d (o : Bool) (t : TypeId) (xs : List Int) (hn : xs.length ≤ 1000000) : DCalls Tryz.prog 82 [.c (.sl o t 1 (xs.map iC))] (fun r => r = [.own false [.sl true 3 1 (xs.map iC)]]) := by -- params []int
 refine dcalls_of Tryz.func82 rfl (by rw [Tryz.ntmps82]; simp) fun w0 => ?_
 rw [Tryz.ntmps82]
 have dfx := dfxDws
 simp only [initE, argsL, Arg.av, netC, endss, ints, ends]
 refine dw_seq (dwR fun K hK => ?_)
 repeat refine evF ?_
 refine aops_end (hK _ (dwK [0] ?_))
 clear hK K
 refine dw_seq (dwR fun K hK => ?_)
 repeat refine evF ?_
 refine aops_end (hK _ (dwK [2] ?_))
 clear hK K
 exact dw_ret (fin_ret Tryz.results82 (.one (.own _ _ _ _ rfl rfl (own1 (owned_ints _ _)))) (by decide) rfl)
def biWaveSt1 : Nat → Stat
 | 0 => ⟨[2], [(2, 1)], [], [20], [], []⟩
 | 1 => ⟨[20], [(2, 1)], [], [21], [], []⟩
 | 2 => ⟨[21], [], [], [22], [], []⟩
 | 3 => ⟨[22], [], [], [23], [], []⟩
 | 4 => ⟨[2], [(2, 1)], [], [24], [], []⟩
 | 5 => ⟨[24], [(2, 1)], [], [25], [], []⟩
 | 6 => ⟨[25], [], [], [26], [], []⟩
 | 7 => ⟨[26], [], [], [27], [], []⟩
 | 8 => ⟨[23], [], [23], [7], [(23, 1)], []⟩
 | 9 => ⟨[27], [], [27], [8], [(27, 1)], []⟩
 | _ => ⟨[], [], [], [], [], []⟩
def biWaveSt25 : Nat → Stat
 | 0 => ⟨[8], [], [], [80], [], []⟩
 | 1 => ⟨[16], [], [], [81], [], []⟩
 | 2 => ⟨[80, 81], [(8, 1)], [], [82], [], []⟩
 | 3 => ⟨[82], [(8, 2)], [], [83], [], []⟩
 | 4 => ⟨[83], [], [], [84], [], []⟩
 | 5 => ⟨[84], [], [], [85], [], []⟩
 | 6 => ⟨[11, 85], [], [], [86], [], []⟩
 | 7 => ⟨[19, 85], [(19, 1)], [], [87], [], []⟩
 | 8 => ⟨[87, 85], [(19, 1)], [], [88], [], []⟩
 | 9 => ⟨[86, 88, 85], [(11, 1)], [], [89], [], []⟩
 | 10 => ⟨[89, 85], [(11, 2)], [], [90], [], []⟩
 | 11 => ⟨[10, 85], [], [], [91], [], []⟩
 | 12 => ⟨[91, 85], [], [], [92], [], []⟩
 | 13 => ⟨[90, 92, 85], [], [], [93], [], []⟩
 | 14 => ⟨[85, 93], [], [], [94], [], []⟩
 | 15 => ⟨[94], [], [], [95], [], []⟩
 | 16 => ⟨[19, 95], [(19, 1)], [], [96], [], []⟩
 | 17 => ⟨[96, 95], [(19, 1)], [], [97], [], []⟩
 | 18 => ⟨[7, 95], [], [], [98], [], []⟩
 | 19 => ⟨[19, 95], [(19, 1)], [], [99], [], []⟩
 | 20 => ⟨[99, 95], [(19, 1)], [], [100], [], []⟩
 | 21 => ⟨[98, 100, 95], [(7, 1)], [], [101], [], []⟩
 | 22 => ⟨[101, 95], [(7, 2)], [], [102], [], []⟩
 | 23 => ⟨[97, 102, 95], [], [], [103], [], []⟩
 | 24 => ⟨[95, 103], [], [], [104], [], []⟩
 | _ => ⟨[], [], [], [], [], []⟩
def sentTo (N : Net) (root r k : Nat) : Int := sumTo k fun w => if gi (wdn N root r) w = r then snt (prt N (wdn N root r) w) (gl N.ends w).length else 0
theorem sentTo_succ (N : Net) (root r k : Nat) : sentTo N root r (k + 1) = sentTo N root r k + if gi (wdn N root r) k = r then snt (prt N (wdn N root r) k) (gl N.ends k).length else 0 := rfl
theorem sentTo0 (N : Net) (root r : Nat) : sentTo N root r 0 = 0 := rfl
theorem sentTo_bnd {N : Net} {root r : Nat} (hd : ∀ w, w < N.ends.length → (gl N.ends w).length ≤ 6) : ∀ k : Nat, k ≤ N.ends.length → 0 ≤ sentTo N root r k ∧ sentTo N root r k ≤ 6 * k
 | 0, _ => by simp [sentTo, sumTo]
 | k + 1, h => by
  have h1 := sentTo_bnd (root := root) (r := r) hd k (by omega)
  have h2 := snt_bnd (prt N (wdn N root r) k) (gl N.ends k).length
  have h3 := hd k (by omega)
  unfold sentTo at h1 ⊢
  rw [sumTo]
  split <;> push_cast <;> omega
set_option maxRecDepth 8000 in
set_option maxHeartbeats 0 in
theorem biWave_d (f : NF) (N : Net) (root : Nat) (hg : goodB N = true) (hr : root < N.ends.length) : DCalls Tryz.prog 36 [.agg (netC f N), .c (.p (.int .i64 root))] (fun r => r = [.own false [.sl true 3 1 ((wpar N root).map iC)], .own false [.sl true 3 1 ((dists N root).map iC)], .c (.p (.int .i64 (wmsg N root)))]) := by -- params impl.Network, int
 have hs : Sym N.ends := (goodB_fine hg).sym
 have hn := (good_len hg).2
 have hd : ∀ w, w < N.ends.length → (gl N.ends w).length ≤ 6 := fun w hw => good_deg hg hw
 refine dcalls_of Tryz.func36 rfl (by rw [Tryz.ntmps36]; simp) fun w0 => ?_
 rw [Tryz.ntmps36]
 have dfx := dfxDws
 simp only [initE, argsL, Arg.av, netC, endss, ints, ends]
 refine dw_seq (dwR fun K hK => ?_)
 repeat refine evF ?_
 refine aops_end (hK _ (dwK [1, 2] ?_))
 clear hK K
 have dfx := And.intro dfx (@biWaveSt1.eq_def)
 refine dw_seq (dwRD biWaveSt1 (fun j r => match j with | 3 => r = [.own false [.sl true 3 1 ((List.replicate N.ends.length (-1)).map iC)]] | 7 => r = [.own false [.sl true 3 1 ((List.replicate N.ends.length (-1)).map iC)]] | _ => True) fun K hK => ?_)
 repeat refine dvF ?_
 have dfx := And.intro dfx (@biWaveSt1.eq_def)
 refine dcF rfl ⟨rfl, _, rfl⟩ (by omega) (by first | exact may81) (roFree_d N.ends.length (by omega)) ?_
 rintro _ rfl
 repeat refine dvF ?_
 have dfx := And.intro dfx (@biWaveSt1.eq_def)
 refine dcF rfl ⟨rfl, _, rfl⟩ (by omega) (by first | exact may81) (roFree_d N.ends.length (by omega)) ?_
 rintro _ rfl
 repeat refine dvF ?_
 refine dops_end (hK _ (dwK [1, 2, 7, 8] ?_))
 clear hK K
 have hrl : (List.replicate N.ends.length (-1 : Int)).length = N.ends.length := List.length_replicate
 have dfx := And.intro dfx (@hrl)
 refine dw_seq (dwR fun K hK => ?_)
 repeat refine evF ?_
 have dfk := @puti
 refine aops_end (hK _ (dwKF [2, 7, 8] ?_))
 clear hK K
 refine dw_seq (dwR fun K hK => ?_)
 repeat refine evF ?_
 refine aops_end (hK _ (dwK [2, 7, 8, 9] ?_))
 clear hK K
 refine dw_seq (dwR fun K hK => ?_)
 repeat refine evF ?_
 refine aops_end (hK _ (dwK [2, 7, 8, 9, 10] ?_))
 clear hK K
 refine dw_block ?_
 refine dw_loopP (X := Nat) (fun r => r ≤ N.ends.length) (fun r => [(9, .c (.p (.int .i64 (msgs N root r)))), (10, .c (.p (.int .i64 ((r : Int) + 1))))]) (fun r => [((7, 0), ⟨none, [.sl true 3 1 ((prts N (wdn N root r)).map iC)]⟩), ((8, 0), ⟨none, [.sl true 3 1 ((wdn N root r).map iC)]⟩)]) (fun r => N.ends.length - r) 0 (Nat.zero_le _) (by first | rfl | (simp only [bunK, C.at, C.put, List.dropLast, List.isPrefixOf, Nat.reduceMul, Nat.reduceLT, Nat.reduceLeDiff, Nat.reduceBEq, Nat.reduceEqDiff, reduceCtorEq, Nat.reduceAdd, ↓reduceIte, Int.natCast_zero, prts_zero hr] <;> rfl)) ?_
 rintro r hrn
 intro E hE
 simp only [bunK, C.at, C.put, List.dropLast, List.isPrefixOf, Nat.reduceMul, Nat.reduceLT, Nat.reduceLeDiff, Nat.reduceBEq, Nat.reduceEqDiff, reduceCtorEq, Nat.reduceAdd, ↓reduceIte] at hE
 subst hE
 have hms := msgs_small (root := root) hn hd (r := r) (by omega)
 have hok := wdn_ok hs hr r
 have hlw := hok.len
 have hlp : (prts N (wdn N root r)).length = N.ends.length := prts_len _
 refine dw_seq (dw_block ?_)
 refine dw_seq (dwR fun K hK => ?_)
 repeat refine evF ?_
 refine clF rfl ⟨rfl, _, rfl⟩ (by omega) (by first | exact may82) (l1Own_d true 3 (wdn N root r) (by omega)) ?_
 rintro _ rfl
 repeat refine evF ?_
 refine aops_end (hK _ (dwK [2, 7, 8, 9, 10, 11] ?_))
 clear hK K
 refine dw_seq (dwR fun K hK => ?_)
 repeat refine evF ?_
 refine aops_end (hK _ (dwK [2, 7, 8, 9, 10, 11, 12] ?_))
 clear hK K
 refine dw_seq ?_
 refine dw_seq (dwR fun K hK => ?_)
 repeat refine evF ?_
 refine aops_end (hK _ (dwK [2, 7, 8, 9, 10, 11, 12, 36, 37, 38] ?_))
 clear hK K
 refine dw_block ?_
 refine dw_loopP (X := Nat) (fun v => v ≤ N.ends.length) (fun v => [(12, .c (.p (.int .i64 (sentTo N root r v)))), (38, .c (.p (.int .i64 v)))]) (fun v => []) (fun v => N.ends.length - v) 0 (Nat.zero_le _) (by first | rfl | (simp only [bunK, C.at, C.put, List.dropLast, List.isPrefixOf, Nat.reduceMul, Nat.reduceLT, Nat.reduceLeDiff, Nat.reduceBEq, Nat.reduceEqDiff, reduceCtorEq, Nat.reduceAdd, ↓reduceIte, Int.natCast_zero, sentTo0] <;> rfl)) ?_
 rintro v hv0
 intro E hE
 simp only [bunK, C.at, C.put, List.dropLast, List.isPrefixOf, Nat.reduceMul, Nat.reduceLT, Nat.reduceLeDiff, Nat.reduceBEq, Nat.reduceEqDiff, reduceCtorEq, Nat.reduceAdd, ↓reduceIte] at hE
 subst hE
 have hsb := sentTo_bnd (root := root) (r := r) hd v hv0
 refine dw_seq (dwR fun K hK => ?_)
 repeat refine evF ?_
 refine aops_end (hK _ (dwK [2, 7, 8, 9, 10, 11, 12, 36, 37, 38, 39] ?_))
 clear hK K
 refine dw_seq (dwI (fun hb => ?_) (fun hb => ?_))
 ·have hv : v < N.ends.length := by simpa using hb
  have hdv := hd v hv
  refine dw_skip ?_
  show DW _ _ _ _ _
  refine dw_seq (dw_block ?_)
  refine dw_seq (dwR fun K hK => ?_)
  repeat refine evF ?_
  refine aops_end (hK _ (dwK [2, 7, 8, 9, 10, 11, 12, 13, 14, 36, 37, 38] ?_))
  clear hK K
  refine dw_seq ?_
  refine dw_seq (dwR fun K hK => ?_)
  repeat refine evF ?_
  refine aops_end (hK _ (dwK [2, 7, 8, 9, 10, 11, 12, 13, 14, 36, 37, 38, 49] ?_))
  clear hK K
  refine dwI (fun hb => ?_) (fun hb => ?_)
  ·have hne : gi (wdn N root r) v ≠ r := by
    intro e
    rw [e] at hb
    simp at hb
   have hst : sentTo N root r v = sentTo N root r (v + 1) := by rw [sentTo_succ, if_neg hne]; omega
   refine dw_leave2 ?_
   refine dwK [2, 7, 8, 9, 10, 11, 12, 36, 37, 38] ?_
   refine dwR fun K hK => ?_
   repeat refine evF ?_
   have dfk := And.intro @castS @hst
   refine aops_end (hK _ ?_)
   clear hK K
   show ∃ x, _ ∧ _ ∧ Weak _ _
   refine ⟨v + 1, ?_, ?_, weakFk [2, 7, 8, 9, 10, 11, 12, 36, 37, 38]⟩
   ·exact hv
   ·omega
  ·have he : gi (wdn N root r) v = r := by simp at hb; omega
   have hst : sentTo N root r (v + 1) = sentTo N root r v + snt (prt N (wdn N root r) v) (gl N.ends v).length := by rw [sentTo_succ, if_pos he]
   refine dw_skip ?_
   show DW _ _ _ _ _
   refine dw_seq (dwR fun K hK => ?_)
   repeat refine evF ?_
   refine aops_end (hK _ (dwK [2, 7, 8, 9, 10, 11, 12, 13, 36, 37, 38, 51, 52] ?_))
   clear hK K
   refine dw_block ?_
   refine dw_loopP (X := Nat) (fun i => i ≤ (gl N.ends v).length) (fun i => [(12, .c (.p (.int .i64 (sentTo N root r v + snt (prt N (wdn N root r) v) i)))), (52, .c (.p (.int .i64 i)))]) (fun i => []) (fun i => (gl N.ends v).length - i) 0 (Nat.zero_le _) (by first | rfl | (simp only [bunK, C.at, C.put, List.dropLast, List.isPrefixOf, Nat.reduceMul, Nat.reduceLT, Nat.reduceLeDiff, Nat.reduceBEq, Nat.reduceEqDiff, reduceCtorEq, Nat.reduceAdd, ↓reduceIte, Int.natCast_zero, snt0, Int.add_zero] <;> rfl)) ?_
   rintro i hi
   intro E hE
   simp only [bunK, C.at, C.put, List.dropLast, List.isPrefixOf, Nat.reduceMul, Nat.reduceLT, Nat.reduceLeDiff, Nat.reduceBEq, Nat.reduceEqDiff, reduceCtorEq, Nat.reduceAdd, ↓reduceIte] at hE
   subst hE
   have hsn := snt_bnd (prt N (wdn N root r) v) i
   refine dw_seq (dwR fun K hK => ?_)
   repeat refine evF ?_
   refine aops_end (hK _ (dwK [2, 7, 8, 9, 10, 11, 12, 13, 36, 37, 38, 51, 52, 53] ?_))
   clear hK K
   refine dw_seq (dwI (fun hb => ?_) (fun hb => ?_))
   ·have hil : i < (gl N.ends v).length := by simpa using hb
    have hpv : gi (prts N (wdn N root r)) v = prt N (wdn N root r) v := gi_prts hv
    refine dw_skip ?_
    show DW _ _ _ _ _
    refine dw_seq (dw_block ?_)
    refine dw_seq (dwR fun K hK => ?_)
    repeat refine evF ?_
    refine aops_end (hK _ (dwK [2, 7, 8, 9, 10, 11, 12, 13, 15, 36, 37, 38, 51, 52] ?_))
    clear hK K
    have dfx := And.intro dfx (@hpv)
    refine dw_seq (dwR fun K hK => ?_)
    repeat refine evF ?_
    refine aops_end (hK _ (dwK [2, 7, 8, 9, 10, 11, 12, 13, 36, 37, 38, 51, 52, 60] ?_))
    clear hK K
    refine dwI (fun hb => ?_) (fun hb => ?_)
    ·have hip : (i : Int) ≠ prt N (wdn N root r) v := by simpa using hb
     have hss : snt (prt N (wdn N root r) v) (i + 1) = snt (prt N (wdn N root r) v) i + 1 := by rw [snt, if_pos hip]
     refine dwR fun K hK => ?_
     repeat refine evF ?_
     refine aops_end (hK _ (dwK [2, 7, 8, 9, 10, 11, 12, 13, 36, 37, 38, 51, 52] ?_))
     clear hK K
     refine dwR fun K hK => ?_
     repeat refine evF ?_
     have dfk := And.intro @castS (And.intro @hss @addA)
     refine aops_end (hK _ ?_)
     clear hK K
     show ∃ x, _ ∧ _ ∧ Weak _ _
     refine ⟨i + 1, ?_, ?_, weakFk [2, 7, 8, 9, 10, 11, 12, 13, 36, 37, 38, 51, 52]⟩
     ·exact hil
     ·omega
    ·have hip : (i : Int) = prt N (wdn N root r) v := by simpa using hb
     have hss : snt (prt N (wdn N root r) v) (i + 1) = snt (prt N (wdn N root r) v) i := by rw [snt, if_neg (by simpa using hip)]; omega
     refine dw_skip ?_
     show DW _ _ _ _ _
     refine dwR fun K hK => ?_
     repeat refine evF ?_
     have dfk := And.intro @castS @hss
     refine aops_end (hK _ ?_)
     clear hK K
     show ∃ x, _ ∧ _ ∧ Weak _ _
     refine ⟨i + 1, ?_, ?_, weakFk [2, 7, 8, 9, 10, 11, 12, 13, 36, 37, 38, 51, 52]⟩
     ·exact hil
     ·omega
   ·have hil : i = (gl N.ends v).length := by
     have : ¬ (i : Int) < ((gl N.ends v).length : Int) := by simpa using hb
     omega
    subst hil
    refine dw_leave3 ?_
    refine dwK [2, 7, 8, 9, 10, 11, 12, 36, 37, 38] ?_
    refine dwR fun K hK => ?_
    repeat refine evF ?_
    have dfk := And.intro @castS @hst
    refine aops_end (hK _ ?_)
    clear hK K
    show ∃ x, _ ∧ _ ∧ Weak _ _
    refine ⟨v + 1, ?_, ?_, weakFk [2, 7, 8, 9, 10, 11, 12, 36, 37, 38]⟩
    ·exact hv
    ·omega
 ·have hvn : v = N.ends.length := by
   have : ¬ (v : Int) < (N.ends.length : Int) := by simpa using hb
   omega
  subst hvn
  have hall : sentTo N root r N.ends.length = sentR N root r := rfl
  have hlw1 := (wdn_ok hs hr (r + 1)).len
  have hlp1 : (prts N (wdn N root (r + 1))).length = N.ends.length := prts_len _
  refine dw_leave3 ?_
  refine dwK [2, 7, 8, 9, 10, 11, 12] ?_
  refine dw_seq ?_
  refine dw_seq (dwR fun K hK => ?_)
  repeat refine evF ?_
  refine aops_end (hK _ (dwK [2, 7, 8, 9, 10, 11, 12, 66, 67, 68] ?_))
  clear hK K
  refine dw_block ?_
  refine dw_loopP (X := Nat) (fun w => w ≤ N.ends.length) (fun w => [(68, .c (.p (.int .i64 w)))]) (fun w => [((7, 0), ⟨none, [.sl true 3 1 ((mixI N.ends.length (prts N (wdn N root (r + 1))) (prts N (wdn N root r)) w).map iC)]⟩), ((8, 0), ⟨none, [.sl true 3 1 ((mixI N.ends.length (wdn N root (r + 1)) (wdn N root r) w).map iC)]⟩)]) (fun w => N.ends.length - w) 0 (Nat.zero_le _) (by first | rfl | (simp only [bunK, C.at, C.put, List.dropLast, List.isPrefixOf, Nat.reduceMul, Nat.reduceLT, Nat.reduceLeDiff, Nat.reduceBEq, Nat.reduceEqDiff, reduceCtorEq, Nat.reduceAdd, ↓reduceIte, Int.natCast_zero, mixI_zero (a := wdn N root (r + 1)) hlw, mixI_zero (a := prts N (wdn N root (r + 1))) hlp] <;> rfl)) ?_
  rintro w hw0
  intro E hE
  simp only [bunK, C.at, C.put, List.dropLast, List.isPrefixOf, Nat.reduceMul, Nat.reduceLT, Nat.reduceLeDiff, Nat.reduceBEq, Nat.reduceEqDiff, reduceCtorEq, Nat.reduceAdd, ↓reduceIte] at hE
  subst hE
  refine dw_seq (dwR fun K hK => ?_)
  repeat refine evF ?_
  refine aops_end (hK _ (dwK [2, 7, 8, 9, 10, 11, 12, 66, 67, 68, 69] ?_))
  clear hK K
  refine dw_seq (dwI (fun hb => ?_) (fun hb => ?_))
  ·have hw : w < N.ends.length := by simpa using hb
   have hdw := hd w hw
   refine dw_skip ?_
   show DW _ _ _ _ _
   refine dw_seq (dw_block ?_)
   refine dw_seq (dwR fun K hK => ?_)
   repeat refine evF ?_
   refine aops_end (hK _ (dwK [2, 7, 8, 9, 10, 11, 12, 16, 17, 66, 67, 68] ?_))
   clear hK K
   refine dw_seq (dwR fun K hK => ?_)
   repeat refine evF ?_
   refine aops_end (hK _ (dwK [2, 7, 8, 9, 10, 11, 12, 16, 66, 67, 68, 73, 74, 75] ?_))
   clear hK K
   refine dw_block ?_
   refine dw_loopP (X := Nat × Nat) (fun x => x.2 ≤ (gl N.ends w).length ∧ ((x.1 = w ∧ (0 ≤ gi (wdn N root r) w ∨ ∀ j, j < x.2 → gi (wdn N root r) (nd N w j) ≠ r)) ∨ (x.1 = w + 1 ∧ 0 ≤ gi (wdn N root (r + 1)) w))) (fun x => [(75, .c (.p (.int .i64 x.2)))]) (fun x => [((7, 0), ⟨none, [.sl true 3 1 ((mixI N.ends.length (prts N (wdn N root (r + 1))) (prts N (wdn N root r)) x.1).map iC)]⟩), ((8, 0), ⟨none, [.sl true 3 1 ((mixI N.ends.length (wdn N root (r + 1)) (wdn N root r) x.1).map iC)]⟩)]) (fun x => (gl N.ends w).length - x.2) (w, 0) ⟨Nat.zero_le _, .inl ⟨rfl, .inr fun j hj => by simp at hj⟩⟩ (by first | rfl | (simp only [bunK, C.at, C.put, List.dropLast, List.isPrefixOf, Nat.reduceMul, Nat.reduceLT, Nat.reduceLeDiff, Nat.reduceBEq, Nat.reduceEqDiff, reduceCtorEq, Nat.reduceAdd, ↓reduceIte, Int.natCast_zero] <;> rfl)) ?_
   rintro ⟨k, j⟩ ⟨hj0, hk⟩
   intro E hE
   simp only [bunK, C.at, C.put, List.dropLast, List.isPrefixOf, Nat.reduceMul, Nat.reduceLT, Nat.reduceLeDiff, Nat.reduceBEq, Nat.reduceEqDiff, reduceCtorEq, Nat.reduceAdd, ↓reduceIte] at hE
   subst hE
   dsimp only at hj0 hk ⊢
   have hkn : k ≤ N.ends.length := by rcases hk with ⟨rfl, -⟩ | ⟨rfl, -⟩ <;> omega
   have hm1 := mixI_len N.ends.length (prts N (wdn N root (r + 1))) (prts N (wdn N root r)) k
   have hm2 := mixI_len N.ends.length (wdn N root (r + 1)) (wdn N root r) k
   refine dw_seq (dwR fun K hK => ?_)
   repeat refine evF ?_
   refine aops_end (hK _ (dwK [2, 7, 8, 9, 10, 11, 12, 16, 66, 67, 68, 73, 74, 75, 76] ?_))
   clear hK K
   refine dw_seq (dwI (fun hb => ?_) (fun hb => ?_))
   ·have hjl : j < (gl N.ends w).length := by simpa using hb
    obtain ⟨hx, hbk, -, -, hgp⟩ := sym_nd hs hw hjl
    have hg1 : (gp (gl N.ends w) j).1 = ((nd N w j : Nat) : Int) := by rw [hgp]
    have hg2 : (gp (gl N.ends w) j).2 = ((bk N w j : Nat) : Int) := by rw [hgp]
    have hxw : nd N w j < (wdn N root r).length := by omega
    have hxm : nd N w j < (mixI N.ends.length (prts N (wdn N root (r + 1))) (prts N (wdn N root r)) k).length := by omega
    have hwm : w < (mixI N.ends.length (wdn N root (r + 1)) (wdn N root r) k).length := by omega
    have hwm2 : w < (mixI N.ends.length (prts N (wdn N root (r + 1))) (prts N (wdn N root r)) k).length := by omega
    refine dw_skip ?_
    show DW _ _ _ _ _
    refine dw_seq (dw_block ?_)
    refine dw_seq (dwR fun K hK => ?_)
    repeat refine evF ?_
    refine aops_end (hK _ (dwK [2, 7, 8, 9, 10, 11, 12, 16, 18, 19, 66, 67, 68, 73, 74, 75] ?_))
    clear hK K
    have hcase : (decide (gi (mixI N.ends.length (wdn N root (r + 1)) (wdn N root r) k) w < 0) = false) ∨ (k = w ∧ gi (wdn N root r) w < 0 ∧ decide (gi (mixI N.ends.length (wdn N root (r + 1)) (wdn N root r) k) w < 0) = true ∧ ∀ j', j' < j → gi (wdn N root r) (nd N w j') ≠ r) := by
     rcases hk with ⟨rfl, h⟩ | ⟨rfl, h⟩
     ·by_cases h1 : 0 ≤ gi (wdn N root r) k
      ·left; rw [gi_mixI hw, if_neg (by omega)]; simpa using h1
      ·right
       exact ⟨rfl, by omega, by rw [gi_mixI hw, if_neg (by omega)]; simp; omega, h.resolve_left h1⟩
     ·left; rw [gi_mixI hw, if_pos (by omega)]; simpa using h
    rcases hcase with hneg | ⟨rfl, hw0', hneg, hfst⟩
    ·have dfx := And.intro dfx (And.intro @biWaveSt25.eq_def (And.intro @hg1 (And.intro @hg2 @hneg)))
     refine dw_seq (dwRD biWaveSt25 (fun j r => True) fun K hK => ?_)
     repeat refine dvF ?_
     have dfk := @hneg
     refine dops_end (hK _ (dwKF [2, 7, 8, 9, 10, 11, 12, 16, 18, 66, 67, 68, 73, 74, 75, 104] ?_))
     clear hK K
     refine dwI (fun hb => ?_) (fun hb => ?_)
     ·cases hb
     ·refine dw_skip ?_
      show DW _ _ _ _ _
      refine dwR fun K hK => ?_
      repeat refine evF ?_
      have dfk := @castS
      refine aops_end (hK _ ?_)
      clear hK K
      show ∃ x, _ ∧ _ ∧ Weak _ _
      refine ⟨(k, j + 1), ?_, ?_, weakFk [2, 7, 8, 9, 10, 11, 12, 16, 66, 67, 68, 73, 74, 75]⟩
      ·refine ⟨hjl, ?_⟩
       dsimp only
       rcases hk with ⟨rfl, h⟩ | h
       ·rw [gi_mixI hw, if_neg (by omega)] at hneg
        exact .inl ⟨rfl, .inl (by simpa using hneg)⟩
       ·exact .inr h
      ·dsimp only; omega
    ·rcases Int.lt_trichotomy (gi (wdn N root r) (nd N k j)) r with hlt | heq | hgt
     ·have hne : gi (wdn N root r) (nd N k j) ≠ r := by omega
      have hbf : (gi (wdn N root r) (nd N k j) == (r : Int) + 1 - 1) = false := by simp; omega
      have dfx := And.intro dfx (And.intro @biWaveSt25.eq_def (And.intro @hg1 (And.intro @hg2 (And.intro @hneg @hbf))))
      refine dw_seq (dwRD biWaveSt25 (fun j r => True) fun K hK => ?_)
      repeat refine dvF ?_
      have dfk := And.intro @hneg @hbf
      refine dops_end (hK _ (dwKF [2, 7, 8, 9, 10, 11, 12, 16, 18, 66, 67, 68, 73, 74, 75, 104] ?_))
      clear hK K
      refine dwI (fun hb => ?_) (fun hb => ?_)
      ·cases hb
      ·refine dw_skip ?_
       show DW _ _ _ _ _
       refine dwR fun K hK => ?_
       repeat refine evF ?_
       have dfk := @castS
       refine aops_end (hK _ ?_)
       clear hK K
       show ∃ x, _ ∧ _ ∧ Weak _ _
       refine ⟨(k, j + 1), ?_, ?_, weakFk [2, 7, 8, 9, 10, 11, 12, 16, 66, 67, 68, 73, 74, 75]⟩
       ·exact ⟨hjl, .inl ⟨rfl, .inr fun j' hj' => by
         rcases Nat.lt_or_ge j' j with h | h
         ·exact hfst j' h
         ·obtain rfl : j' = j := by omega
          exact hne⟩⟩
       ·dsimp only; omega
     ·have hbt : (gi (wdn N root r) (nd N k j) == (r : Int) + 1 - 1) = true := by simp; omega
      obtain ⟨n1, n2⟩ := wave_new hs hr hw hw0' hjl heq hfst
      have hpx : gi (mixI N.ends.length (prts N (wdn N root (r + 1))) (prts N (wdn N root r)) k) (nd N k j) = prt N (wdn N root r) (nd N k j) := by
       have h1 := (wave_old hs hr hx (show 0 ≤ gi (wdn N root r) (nd N k j) by omega)).2
       rw [gi_mixI hx, h1, gi_prts hx]
       split <;> rfl
      have hpn := prt_no hs hr hw hw0' hjl
      have hbn : ((bk N k j : Int) != prt N (wdn N root r) (nd N k j)) = true := by simpa using hpn.symm
      have dfx := And.intro dfx (And.intro @biWaveSt25.eq_def (And.intro @hg1 (And.intro @hg2 (And.intro @hneg (And.intro @hbt (And.intro @hpx @hbn))))))
      refine dw_seq (dwRD biWaveSt25 (fun j r => True) fun K hK => ?_)
      repeat refine dvF ?_
      have dfk := And.intro @hneg (And.intro @hbt (And.intro @hpx @hbn))
      refine dops_end (hK _ (dwKF [2, 7, 8, 9, 10, 11, 12, 16, 18, 66, 67, 68, 73, 74, 75, 104] ?_))
      clear hK K
      refine dwI (fun hb => ?_) (fun hb => ?_)
      ·refine dw_seq (dwR fun K hK => ?_)
       repeat refine evF ?_
       refine aops_end (hK _ (dw_keep [2, 7, 8, 9, 10, 11, 12, 16, 18, 66, 67, 68, 73, 74, 75] (by simp only [bunK, C.at, C.put, List.dropLast, List.isPrefixOf, Nat.reduceMul, Nat.reduceLT, Nat.reduceLeDiff, Nat.reduceBEq, Nat.reduceEqDiff, reduceCtorEq, Nat.reduceAdd, ↓reduceIte , puti, mixI_set (n := N.ends.length) (b := wdn N root r) hw n1]; exact rfl) ?_))
       clear hK K
       refine dwR fun K hK => ?_
       repeat refine evF ?_
       refine aops_end (hK _ (dw_keep [2, 7, 8, 9, 10, 11, 12, 16, 66, 67, 68, 73, 74, 75] (by simp only [bunK, C.at, C.put, List.dropLast, List.isPrefixOf, Nat.reduceMul, Nat.reduceLT, Nat.reduceLeDiff, Nat.reduceBEq, Nat.reduceEqDiff, reduceCtorEq, Nat.reduceAdd, ↓reduceIte , puti, mixI_set (n := N.ends.length) (b := prts N (wdn N root r)) hw n2]; exact rfl) ?_))
       clear hK K
       refine dwR fun K hK => ?_
       repeat refine evF ?_
       have dfk := @castS
       refine aops_end (hK _ ?_)
       clear hK K
       show ∃ x, _ ∧ _ ∧ Weak _ _
       refine ⟨(k + 1, j + 1), ?_, ?_, weakFk [2, 7, 8, 9, 10, 11, 12, 16, 66, 67, 68, 73, 74, 75]⟩
       ·exact ⟨hjl, .inr ⟨rfl, by omega⟩⟩
       ·dsimp only; omega
      ·cases hb
     ·have := hok.bnd _ hx
      omega
   ·have hjl : j = (gl N.ends w).length := by
     have : ¬ (j : Int) < ((gl N.ends w).length : Int) := by simpa using hb
     omega
    subst hjl
    have hk1 : mixI N.ends.length (prts N (wdn N root (r + 1))) (prts N (wdn N root r)) k = mixI N.ends.length (prts N (wdn N root (r + 1))) (prts N (wdn N root r)) (w + 1) ∧ mixI N.ends.length (wdn N root (r + 1)) (wdn N root r) k = mixI N.ends.length (wdn N root (r + 1)) (wdn N root r) (w + 1) := by
     rcases hk with ⟨rfl, h⟩ | ⟨rfl, -⟩
     ·by_cases h1 : 0 ≤ gi (wdn N root r) k
      ·obtain ⟨a1, a2⟩ := wave_old hs hr hw h1
       exact ⟨(mixI_keep a2).symm, (mixI_keep a1).symm⟩
      ·obtain ⟨a1, a2⟩ := wave_non hs hr hw (by omega) (h.resolve_left h1)
       exact ⟨(mixI_keep a2).symm, (mixI_keep a1).symm⟩
     ·exact ⟨rfl, rfl⟩
    obtain ⟨hk2, hk3⟩ := hk1
    refine dw_leave3 ?_
    refine dwK [2, 7, 8, 9, 10, 11, 12, 66, 67, 68] ?_
    rw [hk2, hk3]
    refine dwR fun K hK => ?_
    repeat refine evF ?_
    have dfk := @castS
    refine aops_end (hK _ ?_)
    clear hK K
    show ∃ x, _ ∧ _ ∧ Weak _ _
    refine ⟨w + 1, ?_, ?_, weakFk [2, 7, 8, 9, 10, 11, 12, 66, 67, 68]⟩
    ·exact hw
    ·omega
  ·have hwn : w = N.ends.length := by
    have : ¬ (w : Int) < (N.ends.length : Int) := by simpa using hb
    omega
   subst hwn
   have ma := mixI_all (b := wdn N root r) hlw1
   have mb := mixI_all (b := prts N (wdn N root r)) hlp1
   refine dw_leave3 ?_
   refine dwK [2, 7, 8, 9, 10, 12] ?_
   rw [ma, mb, hall]
   have hsR := sentR_bnd (root := root) hd r
   refine dw_seq ?_
   refine dw_seq (dwR fun K hK => ?_)
   repeat refine evF ?_
   refine aops_end (hK _ (dwK [2, 7, 8, 9, 10, 12, 116] ?_))
   clear hK K
   refine dwI (fun hb => ?_) (fun hb => ?_)
   ·have hz : sentR N root r = 0 := by simpa using hb
    have e0 := sent_zero hs hr hz
    obtain ⟨e1, e2, e3⟩ := wave_end hs hr hz hrn
    refine dw_seq (dwR fun K hK => ?_)
    repeat refine evF ?_
    have dfk := And.intro @e0 (And.intro @e1 @e3)
    refine aops_end (hK _ (dwKF [4, 5, 6] ?_))
    clear hK K
    exact dw_ret (fin_ret Tryz.results36 (.three (.own _ _ _ _ rfl rfl (own1 (owned_ints _ _))) (.own _ _ _ _ rfl rfl (own1 (owned_ints _ _))) (.plain _ _ rfl)) (by decide) rfl)
   ·have hz : sentR N root r ≠ 0 := by simpa using hb
    have hrlt : r < N.ends.length := by
     rcases Nat.lt_or_ge r N.ends.length with h | h
     ·exact h
     ·exact absurd (no_front fun w hw e => by have := hok.lt hs hw; omega) hz
    have hmm : msgs N root r + sentR N root r = msgs N root (r + 1) := rfl
    refine dw_skip ?_
    show DW _ _ _ _ _
    refine dwR fun K hK => ?_
    repeat refine evF ?_
    have dfk := @hmm
    refine aops_end (hK _ (dwKF [2, 7, 8, 9, 10] ?_))
    clear hK K
    refine dwR fun K hK => ?_
    repeat refine evF ?_
    have dfk := @castS
    refine aops_end (hK _ ?_)
    clear hK K
    show ∃ x, _ ∧ _ ∧ Weak _ _
    refine ⟨r + 1, ?_, ?_, weakFk [2, 7, 8, 9, 10]⟩
    ·exact hrlt
    ·omega
end
end Go.Proofs.YtlaahgdikiiahaaGreat
