/- Parts of the proof, joined: Pwq, LaPowers. -/
import Derived.Test.YtdiiggpohcjppaaGreatCDpr
import Derived.Test.YtdiiggpohcjppaaGreatCJn46
import Derived.Test.YtdiiggpohcjppaaGreatCSim
import Derived.Test.YtdiiggpohcjppaaGreatCDqo
import Derived.Test.YtdiiggpohcjppaaGreatCLwb
import Derived.Test.YtdiiggpohcjppaaGreatCJn26
set_option linter.unusedSimpArgs false
set_option linter.unusedVariables false
namespace Go.Proofs.YtdiiggpohcjppaaGreat
section
open Go Go.RowKit
section
variable {N P : Net} {m : Nat} {ord : List Int}
theorem T0 {x : Int} (h : wg N x = (P, true)) : ∃ m : Nat, x = m ∧ bz N = true ∧ 1 ≤ m ∧ m ≤ 40 ∧ P = dq N m ∧ bz P = true := by
 unfold wg at h
 split at h
 ·rename_i hc
  rw [Bool.and_eq_true] at hc
  have h1 := cf.1 hc.2
  obtain ⟨m, rfl⟩ : ∃ m : Nat, x = m := ⟨x.toNat, by omega⟩
  rw [Int.toNat_natCast] at h
  simp only [Prod.mk.injEq] at h
  obtain ⟨h2, h3⟩ := h
  rw [okN, if_pos h3] at h2
  exact ⟨m, rfl, hc.1, by omega, by omega, h2.symm, by rw [← h2]; exact h3⟩
 ·simp at h
theorem Qv (v : Nat) : (gl (dq N m).ends v).length ≤ N.ends.length := by
 rcases Nat.lt_or_ge v N.ends.length with h | h
 ·rw [y5 h, jk]; exact ja v
 ·unfold gl
  rw [List.getD_eq_getElem?_getD, List.getElem?_eq_none (by rw [fx]; exact h)]
  simp
theorem Qt {x : Int} {ok : Bool} (h : wg N x = (P, ok)) (ht : Tame N) : P.ends.length ≤ 64 ∧ (∀ v, (gl P.ends v).length ≤ 64) ∧ P.ids.length ≤ 64 ∧ P.inputs.length ≤ 64 := by
 have h0 : net0.ends.length ≤ 64 ∧ (∀ v, (gl net0.ends v).length ≤ 64) ∧ net0.ids.length ≤ 64 ∧ net0.inputs.length ≤ 64 := ⟨by simp [net0], fun v => by simp [net0, gl], by simp [net0], by simp [net0]⟩
 have h1 : ∀ m, (dq N m).ends.length ≤ 64 ∧ (∀ v, (gl (dq N m).ends v).length ≤ 64) ∧ (dq N m).ids.length ≤ 64 ∧ (dq N m).inputs.length ≤ 64 := fun m => ⟨by rw [fx]; exact ht.len, fun v => Nat.le_trans (Qv v) ht.len, ht.ids, ht.ins⟩
 unfold wg at h
 split at h
 ·simp only [Prod.mk.injEq] at h
  rw [← h.1]
  unfold okN
  split
  ·exact h1 _
  ·exact h0
 ·simp only [Prod.mk.injEq] at h
  rw [← h.1]; exact h0
theorem lk {v i : Nat} (hv : v < N.ends.length) (hi : i < (gl (dq N m).ends v).length) : i < (az N m v).length ∧ (gp (gl (dq N m).ends v) i).1 = gi (az N m v) i ∧ gi (az N m v) i ∈ az N m v := by
 rw [y5 hv] at hi ⊢
 rw [jk] at hi
 exact ⟨hi, by rw [Ex hi], by rw [b6 hi]; exact List.getElem_mem hi⟩
theorem Ub {v : Nat} (hv : v < N.ends.length) : nbs (dq N m) v = az N m v := by
 unfold nbs; rw [y5 hv, Qu]
theorem G0 (hs : Sym N.ends) : zd (dq N m) := fun k hk => by
 rw [fx] at hk
 refine ⟨fun j hj he => ?_, fun i j hij hj he => ?_⟩
 ·obtain ⟨h1, h2, h3⟩ := lk hk hj
  rw [h2] at he
  exact sj hs hk (he ▸ h3)
 ·obtain ⟨h1, h2, -⟩ := lk hk hj
  obtain ⟨h4, h5, -⟩ := lk hk (Nat.lt_trans hij hj)
  rw [h2, h5, b6 h1, b6 h4] at he
  exact List.pairwise_iff_getElem.1 (Hf k) i j h4 h1 hij he
theorem Np {k j : Nat} (hk : k < (dq N m).ends.length) (hj : j < (gl (dq N m).ends k).length) (hn : N.ends.length ≤ 64) : -1000000 ≤ (gp (gl (dq N m).ends k) j).1 ∧ (gp (gl (dq N m).ends k) j).1 ≤ 1000000 := by
 rw [fx] at hk
 obtain ⟨-, h2, h3⟩ := lk hk hj
 obtain ⟨w, hw, hw2, -⟩ := fj.1 h3
 rw [h2, hw]
 omega
theorem Nq (hp : dx ord N.ends.length = true) : ch (nbs (dq N m)) ord (dq N m).ends.length (dq N m).ends.length = ch (az N m) ord N.ends.length N.ends.length := by
 obtain ⟨h1, h2, -⟩ := lz hp
 rw [fx]
 exact ye (fun k hk => Ub (by have := h2 k (by omega); omega)) _ (by omega)
theorem Qs (hp : dx ord N.ends.length = true) (hn : N.ends.length ≤ 64) : (ch (az N m) ord N.ends.length N.ends.length).all (fun n => inB n 0 1000000000000) = true := by
 rw [List.all_eq_true]
 intro x hx
 obtain ⟨v, hv, rfl⟩ := List.getElem_of_mem hx
 have hv2 : v < N.ends.length := by rwa [j8] at hv
 have h := R4 (nb := az N m) hp (c := 64) (fun v _ => Nat.le_trans (ja v) hn) hv2
 rw [b6 hv] at h
 exact cf.2 (by omega)
theorem Am (hs : Sym N.ends) (hp : dx ord N.ends.length = true) {v w : Nat} (hv : v < N.ends.length) (h : (w : Int) ∈ az N m v) : (gi (ch (az N m) ord N.ends.length N.ends.length) v == gi (ch (az N m) ord N.ends.length N.ends.length) w) = false := by
 obtain ⟨w', he, hw, -⟩ := fj.1 h
 have : w' = w := by omega
 subst this
 have hne : v ≠ w' := fun e => by subst e; exact sj hs hv h
 have := Fd (nb := az N m) hp hv hw hne (Ax hs hv h) h
 simpa using this
theorem B0 {n : Nat} {b : Nat → Bool} : rm n b = true ↔ ∃ j, j < n ∧ b j = true := by
 unfold rm
 rw [List.any_eq_true]
 exact ⟨fun ⟨j, h1, h2⟩ => ⟨j, List.mem_range.1 h1, h2⟩, fun ⟨j, h1, h2⟩ => ⟨j, List.mem_range.2 h1, h2⟩⟩
theorem B1 {n : Nat} {b : Nat → Bool} (h : ∀ j, j < n → b j = false) : rm n b = false := by
 rw [← Bool.not_eq_true]
 intro h2
 obtain ⟨j, h3, h4⟩ := B0.1 h2
 rw [h j h3] at h4; cases h4
theorem Nr (hs : Sym N.ends) (hp : dx ord N.ends.length = true) : (!(rm (edL (dq N m) (dq N m).ends.length).length fun j => gi (ch (az N m) ord N.ends.length N.ends.length) (gq (edL (dq N m) (dq N m).ends.length) j).1.toNat == gi (ch (az N m) ord N.ends.length N.ends.length) (gq (edL (dq N m) (dq N m).ends.length) j).2.2.1.toNat)) = true := by
 rw [B1 fun j hj => ?_]
 ·rfl
 ·obtain ⟨k, i, hk, hi, -, hq⟩ := Fm (List.getElem_mem hj)
  rw [← R0 hj] at hq
  rw [fx] at hk
  obtain ⟨h1, h2, h3⟩ := lk hk hi
  obtain ⟨w, hw, hw2, -⟩ := fj.1 h3
  have e1 : (gq (edL (dq N m) (dq N m).ends.length) j).1 = (k : Int) := by rw [hq]
  have e2 : (gq (edL (dq N m) (dq N m).ends.length) j).2.2.1 = (w : Int) := by rw [hq]; show (gp _ i).1 = _; rw [h2, hw]
  rw [e1, e2, Int.toNat_natCast, Int.toNat_natCast]
  exact Am hs hp hk (hw ▸ h3)
theorem O3 (hs : Sym N.ends) {v w : Nat} (hv : v < N.ends.length) (hw : w < N.ends.length) (h : gi (bo N v) w = 0) : w = v := Pw hs (di hs hv) hw (k := 0) (by rw [h]; rfl)
theorem Qr (hs : Sym N.ends) (hp : dx ord N.ends.length = true) : ec (kz (dq N m)) ord N.ends.length = ec (jy N ((m + 1 : Nat) : Int)) ord N.ends.length := by
 obtain ⟨h1, h2, h3⟩ := lz hp
 refine Bj (fun k hk s hsm => ?_) _ (by omega)
 obtain ⟨v, hv⟩ : ∃ v : Nat, gi ord k = v := ⟨(gi ord k).toNat, by have := h2 k (by omega); omega⟩
 have hvl : v < N.ends.length := by have := h2 k (by omega); omega
 rw [hv, Int.toNat_natCast]
 have hj : Mb (dq N m) v v = false := B1 fun j hj => by
  obtain ⟨-, g2, g3⟩ := lk hvl hj
  have hne : (gp (gl (dq N m).ends v) j).1 ≠ v := fun e => by
   rw [g2] at e
   exact sj hs hvl (e ▸ g3)
  simpa using hne
 unfold kz
 rw [hj, Bool.false_or]
 have hmm : ((m + 1 : Nat) : Int) - 1 = m := by omega
 rw [Bool.eq_iff_iff]
 unfold L7 jy
 rw [B0, B0, hmm]
 constructor
 ·rintro ⟨j, hj1, hj2⟩
  obtain ⟨-, g2, g3⟩ := lk hvl hj1
  have hmem := po.1 (of_decide_eq_true hj2)
  rw [g2] at hmem
  obtain ⟨w, hw, hw2, hw3, hw4⟩ := fj.1 g3
  rw [hw] at hmem
  obtain ⟨q, hq, hqe⟩ := List.getElem_of_mem hmem
  refine ⟨q, hq, ?_⟩
  rw [b6 hq, hqe, Int.toNat_natCast]
  exact cf.2 (by omega)
 ·rintro ⟨q, hq, hq2⟩
  obtain ⟨i, hi, hie⟩ := hsm _ (List.getElem_mem hq)
  have g1 := h2 i (by omega)
  have g2 := h3 i k hi (by omega)
  obtain ⟨w, hw⟩ : ∃ w : Nat, gi ord i = w := ⟨(gi ord i).toNat, by omega⟩
  rw [b6 hq, hie, hw, Int.toNat_natCast] at hq2
  have g3 := cf.1 hq2
  have hwl : w < N.ends.length := by omega
  have hwv : w ≠ v := by omega
  have h0 : gi (bo N v) w ≠ 0 := fun e => hwv (O3 hs hvl hwl e)
  have hmem : (w : Int) ∈ az N m v := fj.2 ⟨w, rfl, hwl, by omega, by omega⟩
  obtain ⟨j, hj1, hj2⟩ := List.getElem_of_mem hmem
  have hjl : j < (gl (dq N m).ends v).length := by rw [y5 hvl, jk]; exact hj1
  refine ⟨j, hjl, ?_⟩
  obtain ⟨-, g5, -⟩ := lk hvl hjl
  rw [g5, b6 hj1, hj2]
  refine decide_eq_true (po.2 ?_)
  rw [← hw, ← hie]
  exact List.getElem_mem hq
end
end
section
set_option maxHeartbeats 0
set_option maxRecDepth 8000
open Go Go.RowKit
def zBLaPowers1 := PLift.up (And.intro an (And.intro @b7 (And.intro bm (And.intro bj (And.intro @if_pos.{1} (And.intro bb (And.intro cl (And.intro @netZ.eq_1 (And.intro @netO.eq_1 (And.intro Zz (And.intro @bne_self_eq_false.{0} (And.intro @beq_self_eq_true.{0} (And.intro @Bool.not_true (And.intro @Bool.not_false (And.intro @Bool.true_beq (And.intro @Bool.false_beq (And.intro @br @trivial)))))))))))))))))
theorem qa : type_of% zBLaPowers1.down := zBLaPowers1.down
theorem K7 (f : NF) (N : Net) (hg : bz N = true) (hs : zd N) (hb : ∀ k j, k < N.ends.length → j < (gl N.ends k).length → -1000000 ≤ (gp (gl N.ends k) j).1 ∧ (gp (gl N.ends k) j).1 ≤ 1000000) : DCalls Tryz.prog 30 [.agg (bv f N)] (fun r => r = [.c (.p (.bool true)), .c (.p (.bool true))]) := by
 obtain ⟨-, hn, hids, hdg⟩ := dh hg
 have hS : ∀ f : NF, DCalls Tryz.prog 83 [.agg (bv f N)] (fun r => r = [.c (.p (.bool true))]) := fun f => jn fun w vs h1 h2 => by
  obtain ⟨u, rfl, g1⟩ := Bx h1 h2
  exact E9 u N w (Sw g1) (by omega) (fun k _ => hdg k) hb hs
 refine ao Tryz.func30 rfl (by rw [Tryz.ntmps30]; simp) fun w0 => ?_
 rw [Tryz.ntmps30]
 have dfx := qa
 simp only [ce, be, Arg.av, bv, cm, ints, ends]
 refine ab (dwR fun K hK => ?_)
 repeat refine evF ?_
 refine aa (hK _ (dwK [1] ?_))
 clear hK K
 refine ab ?_
 refine ab (dwR fun K hK => ?_)
 repeat refine evF ?_
 refine clF rfl ⟨rfl, _, rfl⟩ (by omega) (by first | exact pg) (f6 ⟨false, f.t1, f.o2, f.t2, false, f.t3, false, f.t4⟩ N hids) ?_
 rintro _ rfl
 repeat refine evF ?_
 have dfx := And.intro dfx (@hg)
 repeat refine evF ?_
 have dfk := @hg
 refine aa (hK _ (a8 [1, 6] ?_))
 clear hK K
 refine dwI (fun hb => ?_) (fun hb => ?_)
 ·cases hb
 ·refine ai ?_
  show DW _ _ _ _ _
  refine ab (dwR fun K hK => ?_)
  repeat refine evF ?_
  refine clF rfl ⟨rfl, _, rfl⟩ (by omega) (by first | exact Zd) (hS ⟨false, f.t1, f.o2, f.t2, false, f.t3, false, f.t4⟩) ?_
  rintro _ rfl
  repeat refine evF ?_
  refine aa (hK _ (dwK [2, 3] ?_))
  clear hK K
  exact ak (aq Tryz.results30 (.two (.plain _ _ rfl) (.plain _ _ rfl)) (by decide) rfl)
theorem yt (f : NF) (N : Net) (o : Bool) (t : TypeId) (ord : List Int) (al : Int) (hg : bz N = true) (hp : dx ord N.ends.length = true) (h1 : inB al 1 40 = false) : DCalls Tryz.prog 36 [.agg (bv f N), .c (.sl o t 1 (ord.map iC)), .c (.p (.int .i64 al))] (fun r => r = [.own false [.sl true 3 1 (([] : List Int).map iC)], .c (.p (.bool false))]) := by
 refine ao Tryz.func36 rfl (by rw [Tryz.ntmps36]; simp) fun w0 => ?_
 rw [Tryz.ntmps36]
 have dfx := qa
 simp only [ce, be, Arg.av, bv, cm, ints, ends]
 refine ab (dwR fun K hK => ?_)
 repeat refine evF ?_
 refine aa (hK _ (dwK [1, 3, 5] ?_))
 clear hK K
 refine ab ?_
 refine ab (dwR fun K hK => ?_)
 repeat refine evF ?_
 refine clF rfl ⟨rfl, _, rfl⟩ (by omega) (by first | exact Bb | exact j3) (qw ⟨false, f.t1, f.o2, f.t2, false, f.t3, false, f.t4⟩ N o t ord hg hp) ?_
 rintro _ rfl
 repeat refine evF ?_
 refine cgF rfl rfl ⟨rfl, _, rfl⟩ (by omega) (by first | exact Bb | exact j3) (ft al 1 40) ?_
 rintro _ rfl
 repeat refine evF ?_
 have dfx := And.intro dfx (@h1)
 repeat refine evF ?_
 have dfk := @h1
 refine aa (hK _ (a8 [1, 3, 5, 20] ?_))
 clear hK K
 refine dwI (fun hb => ?_) (fun hb => ?_)
 ·refine ab (dwR fun K hK => ?_)
  repeat refine evF ?_
  refine aa (hK _ (dwK [6, 7] ?_))
  clear hK K
  refine jw 6 3 1 (by decide) (by simp only [ac, C.at, C.put, List.dropLast, List.isPrefixOf, simprocAttr]) [6, 7] (by simp only [ac, C.at, C.put, List.dropLast, List.isPrefixOf, simprocAttr]; exact rfl) ?_
  exact ak (aq Tryz.results36 (.two (.own _ _ _ _ rfl rfl (own1 (cq _ []))) (.plain _ _ rfl)) (by decide) rfl)
 ·cases hb
theorem K8 (a b : List Int) (hA : jp a) (hB : jp b) : dt Tryz.prog 4 [.c (f5 a), .c (f5 b)] (fun r => r = [.c (.p (.bool true))]) := by
 refine Ei (by simp [Arg.isIo]) Tryz.func4 rfl (by rw [Tryz.ntmps4]; simp) fun w0 => ?_
 rw [Tryz.ntmps4]
 have dfx := qa
 simp only [ce, be, Arg.av, f5]
 refine ab (dwR fun K hK => ?_)
 repeat refine evF ?_
 refine aa (hK _ (dwK [0, 1] ?_))
 clear hK K
 refine ab ?_
 refine ab (dwR fun K hK => ?_)
 repeat refine evF ?_
 refine clF rfl ⟨rfl, _, rfl⟩ (by omega) (by first | exact jaj) (Z0 a b hA) ?_
 rintro _ rfl
 repeat refine evF ?_
 refine aa (hK _ (dwK [0, 1, 28] ?_))
 clear hK K
 refine dwI (fun hb => ?_) (fun hb => ?_)
 ·refine ab (dwR fun K hK => ?_)
  repeat refine evF ?_
  refine aa (hK _ (dwK [4] ?_))
  clear hK K
  exact ak (py Tryz.results4 (.one (.re _ _ (.plain _ _ rfl))) (by decide) rfl)
 ·obtain ⟨hby, hby2⟩ := U4 hb hA hB
  refine ai ?_
  show DW _ _ _ _ _
  refine ab (dwR fun K hK => ?_)
  repeat refine evF ?_
  refine caF rfl ⟨rfl, _, rfl⟩ (by omega) (by first | exact Zq) (Cx a hby) ?_
  rintro _ ⟨N, x, rfl, htm, hx⟩
  repeat refine evF ?_
  refine aa (hK _ (dwK [1, 5, 6] ?_))
  clear hK K
  have hln := htm.len
  have hli := htm.ids
  have hlj := htm.ins
  obtain ⟨P, ok, hpr⟩ : ∃ P ok, wg N x = (P, ok) := ⟨_, _, rfl⟩
  obtain ⟨hb1, hb2, hb3, hb4⟩ := Qt hpr htm
  have hI : DCalls Tryz.prog 27 [.agg (bv NFz N), .c (.p (.int .i64 x))] (fun r => r = [.own true (netO P), .c (.p (.bool ok))]) := by
   have := Ck NFz N x ⟨by omega, fun i _ => by have := htm.deg i; unfold dg at this; omega, by omega, by omega⟩ (by show N.ids.length ≤ _; omega)
   rwa [hpr] at this
  have hS : DCalls Tryz.prog 28 [.agg (bv NFz N), .c (.p (.int .i64 x))] (fun r => r = [.own true (netO P), .c (.p (.bool ok))]) := by
   have := Cf NFz N x (by omega) (by omega)
   rwa [hpr] at this
  refine ab (dwR fun K hK => ?_)
  repeat refine evF ?_
  refine clF rfl ⟨rfl, _, rfl⟩ (by omega) (by first | exact Zp) (hI) ?_
  rintro _ rfl
  repeat refine evF ?_
  have dfk := @netO.eq_1
  refine aa (hK _ (a8 [1, 5, 6, 7, 8] ?_))
  clear hK K
  refine ab (dwR fun K hK => ?_)
  repeat refine evF ?_
  refine clF rfl ⟨rfl, _, rfl⟩ (by omega) (by first | exact Zo) (hS) ?_
  rintro _ rfl
  repeat refine evF ?_
  have dfk := @netO.eq_1
  refine aa (hK _ (a8 [1, 5, 6, 7, 8, 9, 10] ?_))
  clear hK K
  refine ab ?_
  refine ab (dwR fun K hK => ?_)
  repeat refine evF ?_
  refine cgF rfl rfl ⟨rfl, _, rfl⟩ (by omega) (by first | exact Zn) (Cg NFo NFo P (by omega) (fun v _ => by have := hb2 v; omega) (by omega) (by omega)) ?_
  rintro _ rfl
  repeat refine evF ?_
  repeat refine evF ?_
  refine aa (hK _ (dwK [1, 5, 6, 7, 8, 54] ?_))
  clear hK K
  refine dwI (fun hb => ?_) (fun hb => ?_)
  ·cases hb
  ·refine ai ?_
   show DW _ _ _ _ _
   refine ab ?_
   cases ok with
   | false =>
    refine ab (dwR fun K hK => ?_)
    repeat refine evF ?_
    refine aa (hK _ (dwK [1, 5, 6, 7, 56] ?_))
    clear hK K
    refine dwI (fun hb => ?_) (fun hb => ?_)
    ·refine ab (dwR fun K hK => ?_)
     repeat refine evF ?_
     refine aa (hK _ (dwK [4] ?_))
     clear hK K
     exact ak (py Tryz.results4 (.one (.re _ _ (.plain _ _ rfl))) (by decide) rfl)
    ·cases hb
   | true =>
    obtain ⟨m, rfl, hg, hm1, hm2, rfl, hgP⟩ := T0 hpr
    obtain ⟨hs, hn, hids, hdg⟩ := dh hg
    obtain ⟨ord, hord⟩ : ∃ ord, ord = (i9 (E2 b b.length) N.ends.length).1 := ⟨_, rfl⟩
    have hp : dx ord N.ends.length = true := by rw [hord]; exact Jn (we _ _)
    have hpP : dx ord (dq N m).ends.length = true := by rw [fx]; exact hp
    have hol := (lz hp).1
    obtain ⟨col, hcol⟩ : ∃ col, col = ch (az N m) ord N.ends.length N.ends.length := ⟨_, rfl⟩
    have hcl : col.length = N.ends.length := by rw [hcol, j8]
    have hcs : col.all (fun n => inB n 0 1000000000000) = true := by rw [hcol]; exact Qs hp (by omega)
    have hGC : DCalls Tryz.prog 33 [.agg (bv NFo (dq N m)), .c (.sl true 3 1 (ord.map iC))] (fun r => r = [.own false [.sl true 3 1 (col.map iC)], .c (.p (.bool true))]) := by
     have := vq NFo (dq N m) true 3 ord hgP hpP
     rwa [Nq hp, ← hcol] at this
    have hIC : DCalls Tryz.prog 35 [.agg (bv NFo (dq N m)), .c (.sl true 3 1 (col.map iC))] (fun r => r = [.c (.p (.bool true)), .c (.p (.bool true))]) := by
     have := B6 NFo (dq N m) true 3 col hgP (by rw [fx, hcl]) hcs
     have h2 := Nr (m := m) hs hp
     rw [← hcol] at h2
     rwa [h2] at this
    have hID := o6 NFz N true 3 col m hg hcl hcs hm1 hm2 fun v w hv hw h => by
     have h3 := cf.1 h
     rw [hcol]
     exact Am hs hp hv (fj.2 ⟨w, rfl, hw, h3.1, h3.2⟩)
    obtain ⟨st, hst⟩ : ∃ st, st = sorted (ec (jy N ((m + 1 : Nat) : Int)) ord N.ends.length) := ⟨_, rfl⟩
    have hgl := mz (bad := jy N ((m + 1 : Nat) : Int)) (ord := ord) N.ends.length
    have hstl : st.length ≤ 64 := by rw [hst, gj]; omega
    have hGI : DCalls Tryz.prog 37 [.agg (bv NFo (dq N m)), .c (.sl true 3 1 (ord.map iC))] (fun r => r = [.own false [.sl true 3 1 (st.map iC)], .c (.p (.bool true))]) := by
     have h1 := Qr (m := m) hs hp
     have := rn NFo (dq N m) true 3 ord hgP hpP (by rw [fx, h1]; exact Bi (fun v => rfl) _ (by omega))
     rwa [fx, h1, ← hst] at this
    have hcc := nk col
    have hss := nk st
    refine ab (dwR fun K hK => ?_)
    repeat refine evF ?_
    refine aa (hK _ (dwK [1, 5, 6, 7, 56] ?_))
    clear hK K
    refine dwI (fun hb => ?_) (fun hb => ?_)
    ·cases hb
    ·refine ai ?_
     show DW _ _ _ _ _
     refine ab (dwR fun K hK => ?_)
     repeat refine evF ?_
     refine clF rfl ⟨rfl, _, rfl⟩ (by omega) (by first | exact Zm) (K7 NFo (dq N m) hgP (G0 hs) (fun k j hk hj => Np hk hj (by omega))) ?_
     rintro _ rfl
     repeat refine evF ?_
     refine aa (hK _ (dwK [1, 5, 6, 7, 11, 12] ?_))
     clear hK K
     have dfx := And.intro dfx ((Eq.symm hord))
     refine ab (dwR fun K hK => ?_)
     repeat refine evF ?_
     have dfx := And.intro dfx ((Eq.symm hord))
     refine clF rfl ⟨rfl, _, rfl⟩ (by omega) (by first | exact Zl) (Qp N.ends.length b hby2 (by omega)) ?_
     rintro _ rfl
     repeat refine evF ?_
     have dfk := (Eq.symm hord)
     refine aa (hK _ (a8 [5, 6, 7, 11, 12, 13] ?_))
     clear hK K
     have dfx := And.intro dfx ((Eq.symm hcol))
     refine ab (dwR fun K hK => ?_)
     repeat refine evF ?_
     have dfx := And.intro dfx ((Eq.symm hcol))
     refine clF rfl ⟨rfl, _, rfl⟩ (by omega) (by first | exact Zk) (k9 NFz N true 3 ord m hg hp hm1 hm2) ?_
     rintro _ rfl
     repeat refine evF ?_
     have dfk := (Eq.symm hcol)
     refine aa (hK _ (a8 [5, 6, 7, 11, 12, 13, 14, 15] ?_))
     clear hK K
     refine ab (dwR fun K hK => ?_)
     repeat refine evF ?_
     refine clF rfl ⟨rfl, _, rfl⟩ (by omega) (by first | exact Zj) (hGC) ?_
     rintro _ rfl
     repeat refine evF ?_
     refine aa (hK _ (dwK [5, 6, 7, 11, 12, 13, 14, 15, 16, 17] ?_))
     clear hK K
     refine ab (dwR fun K hK => ?_)
     repeat refine evF ?_
     refine clF rfl ⟨rfl, _, rfl⟩ (by omega) (by first | exact Zi) (hID) ?_
     rintro _ rfl
     repeat refine evF ?_
     refine aa (hK _ (dwK [5, 6, 7, 11, 12, 13, 14, 15, 16, 17, 18, 19] ?_))
     clear hK K
     refine ab (dwR fun K hK => ?_)
     repeat refine evF ?_
     refine clF rfl ⟨rfl, _, rfl⟩ (by omega) (by first | exact Zh) (hIC) ?_
     rintro _ rfl
     repeat refine evF ?_
     refine aa (hK _ (dwK [5, 6, 7, 11, 12, 13, 14, 15, 16, 17, 18, 19, 20, 21] ?_))
     clear hK K
     by_cases hm40 : m < 40
     ·have hGR : DCalls Tryz.prog 36 [.agg (bv NFz N), .c (.sl true 3 1 (ord.map iC)), .c (.p (.int .i64 ((m : Int) + 1)))] (fun r => r = [.own false [.sl true 3 1 (st.map iC)], .c (.p (.bool true))]) := by
       have := B7 NFz N true 3 ord (m + 1) hg hp (by omega) (by omega)
       rwa [← hst] at this
      have hgt : decide ((40 : Int) < (m : Int) + 1) = false := decide_eq_false (by omega)
      have hgt2 : decide ((m : Int) + 1 > 40) = false := decide_eq_false (by omega)
      refine ab (dwR fun K hK => ?_)
      repeat refine evF ?_
      refine clF rfl ⟨rfl, _, rfl⟩ (by omega) (by first | exact Vt) (hGR) ?_
      rintro _ rfl
      repeat refine evF ?_
      refine aa (hK _ (dwK [6, 7, 11, 12, 13, 14, 15, 16, 17, 18, 19, 20, 21, 22, 23] ?_))
      clear hK K
      refine ab (dwR fun K hK => ?_)
      repeat refine evF ?_
      refine clF rfl ⟨rfl, _, rfl⟩ (by omega) (by first | exact Vs) (hGI) ?_
      rintro _ rfl
      repeat refine evF ?_
      refine aa (hK _ (dwK [6, 11, 12, 14, 15, 16, 17, 18, 19, 20, 21, 22, 23, 24, 25] ?_))
      clear hK K
      refine ab ?_
      have dfx := And.intro dfx (And.intro @hgt @hgt2)
      refine ab (dwR fun K hK => ?_)
      repeat refine evF ?_
      have dfk := And.intro @hgt @hgt2
      refine aa (hK _ (a8 [11, 12, 14, 15, 16, 17, 18, 19, 20, 21, 22, 23, 24, 25, 109] ?_))
      clear hK K
      refine dwI (fun hb => ?_) (fun hb => ?_)
      ·cases hb
      ·refine ai ?_
       show DW _ _ _ _ _
       refine ab (dwR fun K hK => ?_)
       repeat refine evF ?_
       refine cgF rfl rfl ⟨rfl, _, rfl⟩ (by omega) (by first | exact Dr) (i8 true 3 col true 3 col (by omega) (by omega)) ?_
       rintro _ rfl
       repeat refine evF ?_
       have dfx := And.intro dfx (@hcc)
       repeat refine evF ?_
       have dfx := And.intro dfx (@hcc)
       refine cgF rfl rfl ⟨rfl, _, rfl⟩ (by omega) (by first | exact Dr) (i8 true 3 st true 3 st (by omega) (by omega)) ?_
       rintro _ rfl
       repeat refine evF ?_
       have dfx := And.intro dfx (And.intro @hcc @hss)
       repeat refine evF ?_
       have dfk := And.intro @hcc @hss
       refine aa (hK _ (a8 [4] ?_))
       clear hK K
       exact ak (py Tryz.results4 (.one (.re _ _ (.plain _ _ rfl))) (by decide) rfl)
     ·have hGR := yt NFz N true 3 ord ((m : Int) + 1) hg hp (by unfold inB; rw [decide_eq_false (show ¬ (m : Int) + 1 ≤ 40 by omega), Bool.and_false])
      have hgt : decide ((40 : Int) < (m : Int) + 1) = true := decide_eq_true (by omega)
      have hgt2 : decide ((m : Int) + 1 > 40) = true := decide_eq_true (by omega)
      refine ab (dwR fun K hK => ?_)
      repeat refine evF ?_
      refine clF rfl ⟨rfl, _, rfl⟩ (by omega) (by first | exact Vt) (hGR) ?_
      rintro _ rfl
      repeat refine evF ?_
      refine aa (hK _ (dwK [6, 7, 11, 12, 13, 14, 15, 16, 17, 18, 19, 20, 21, 22, 23] ?_))
      clear hK K
      refine ab (dwR fun K hK => ?_)
      repeat refine evF ?_
      refine clF rfl ⟨rfl, _, rfl⟩ (by omega) (by first | exact Vs) (hGI) ?_
      rintro _ rfl
      repeat refine evF ?_
      refine aa (hK _ (dwK [6, 11, 12, 14, 15, 16, 17, 18, 19, 20, 21, 22, 23, 24, 25] ?_))
      clear hK K
      refine Bo 24 [6, 11, 12, 14, 15, 16, 17, 18, 19, 20, 21, 24, 25] rfl rfl (by simp only [ac, C.at, C.put, List.dropLast, List.isPrefixOf, simprocAttr, Gx, Dd, t8, t7, ml]; exact rfl) ?_
      refine ab ?_
      have dfx := And.intro dfx (And.intro @hgt @hgt2)
      refine ab (dwR fun K hK => ?_)
      repeat refine evF ?_
      have dfk := And.intro @hgt @hgt2
      refine aa (hK _ (a8 [11, 12, 14, 15, 16, 17, 18, 19, 20, 21, 24, 25, 109] ?_))
      clear hK K
      refine dwI (fun hb => ?_) (fun hb => ?_)
      ·refine ab (dwR fun K hK => ?_)
       repeat refine evF ?_
       refine aa (hK _ (dwK [11, 12, 14, 15, 16, 17, 18, 19, 20, 21, 22, 24, 25] ?_))
       clear hK K
       refine dwR fun K hK => ?_
       repeat refine evF ?_
       refine aa (hK _ (dwK [11, 12, 14, 15, 16, 17, 18, 19, 20, 21, 22, 23, 24, 25] ?_))
       clear hK K
       refine ab (dwR fun K hK => ?_)
       repeat refine evF ?_
       refine cgF rfl rfl ⟨rfl, _, rfl⟩ (by omega) (by first | exact Dr) (i8 true 3 col true 3 col (by omega) (by omega)) ?_
       rintro _ rfl
       repeat refine evF ?_
       have dfx := And.intro dfx (@hcc)
       repeat refine evF ?_
       have dfx := And.intro dfx (@hcc)
       refine cgF rfl rfl ⟨rfl, _, rfl⟩ (by omega) (by first | exact Dr) (i8 false 3 st false 3 st (by omega) (by omega)) ?_
       rintro _ rfl
       repeat refine evF ?_
       have dfx := And.intro dfx (And.intro @hcc @hss)
       repeat refine evF ?_
       have dfk := And.intro @hcc @hss
       refine aa (hK _ (a8 [4] ?_))
       clear hK K
       exact ak (py Tryz.results4 (.one (.re _ _ (.plain _ _ rfl))) (by decide) rfl)
      ·cases hb
theorem Oq (v0 v1 : Value) (L0 L1 : Nat) (w : World) (h0 : It w v0 L0) (h1 : It w v1 L1) : Calls Tryz.prog 4 #[v0, v1] w (o5 w (.bool true)) := W7 (fun a b hA hB => K8 a b hA hB) h0 h1
end
end Go.Proofs.YtdiiggpohcjppaaGreat
