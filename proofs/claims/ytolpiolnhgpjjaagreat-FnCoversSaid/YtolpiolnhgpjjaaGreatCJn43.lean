/- Parts of the proof. -/
import Derived.Test.YtolpiolnhgpjjaaGreatCJn39
import Derived.Test.YtolpiolnhgpjjaaGreatCJn26
import Derived.Test.YtolpiolnhgpjjaaGreatCJn28
import Derived.Test.YtolpiolnhgpjjaaGreatCJn21
import Derived.Test.YtolpiolnhgpjjaaGreatCShelf
import Derived.Test.YtolpiolnhgpjjaaGreatCJn31
import Derived.Test.YtolpiolnhgpjjaaGreatCDt
import Derived.Test.YtolpiolnhgpjjaaGreatCMtr2
import Derived.Test.YtolpiolnhgpjjaaGreatCJn6
import Derived.Test.YtolpiolnhgpjjaaGreatCDix
import Derived.Test.YtolpiolnhgpjjaaGreatCJn15
import Derived.Test.YtolpiolnhgpjjaaGreatCJn33
import Derived.Test.YtolpiolnhgpjjaaGreatCPwq
import Derived.Test.YtolpiolnhgpjjaaGreatCDcu
import Derived.Test.YtolpiolnhgpjjaaGreatCJn17
import Derived.Test.YtolpiolnhgpjjaaGreatCJn8
import Derived.Test.YtolpiolnhgpjjaaGreatCNw1
import Derived.Test.YtolpiolnhgpjjaaGreatCNw3
import Derived.Test.YtolpiolnhgpjjaaGreatCJn29
import Derived.StillTailTactics
import Derived.Test.YtolpiolnhgpjjaaGreatCJn24
import Derived.Test.YtolpiolnhgpjjaaGreatCJn30
import Derived.Test.YtolpiolnhgpjjaaGreatCJn22
import Derived.Test.YtolpiolnhgpjjaaGreatCSp2
import Derived.Test.YtolpiolnhgpjjaaGreatCDpg
import Derived.Test.YtolpiolnhgpjjaaGreatCDcv
set_option linter.unusedSimpArgs false
set_option linter.unusedVariables false
namespace Go.Proofs.YtolpiolnhgpjjaaGreat
section
open Go Go.RowKit
theorem Cm (o : Bool) (t : TypeId) (xs : List Int) (lo hi : Int) : DCalls Tryz.prog 152 [.c (.sl o t 1 (xs.map iC)), .c (.p (.int .i64 lo)), .c (.p (.int .i64 hi))] (fun r => r = [.c (.p (.bool (la xs lo hi)))]) := r5 fun w vs h1 h2 => by
 obtain ⟨u, v, t2, rfl, g1, g2, g3⟩ := W1 h1 h2;rw [Hv g2, Hv g3];exact (nk u xs lo hi w (sh g1)).mono fun _ _ h => RetQ.v h
theorem Jf {N : Net} {k j : Nat} (hp : edP N k j = true) : ∀ {i : Nat}, j < i → ((k : Int), (j : Int), (gp (gl N.ends k) j).1, (gp (gl N.ends k) j).2) ∈ edN N k i
 | 0, h => absurd h (Nat.not_lt_zero _)
 | i + 1, h => by
  rw [edN]
  by_cases h1 : j = i
  ·subst h1; rw [if_pos hp]; simp
  ·have := Jf hp (show j < i by omega);split
   ·exact List.mem_append_left _ this
   ·exact this
theorem C0 {N : Net} {k j : Nat} (hp : edP N k j = true) (hj : j < (gl N.ends k).length) : ∀ {n : Nat}, k < n → ((k : Int), (j : Int), (gp (gl N.ends k) j).1, (gp (gl N.ends k) j).2) ∈ edL N n
 | 0, h => absurd h (Nat.not_lt_zero _)
 | n + 1, h => by
  rw [edL]
  by_cases h1 : k = n
  ·subst h1; exact List.mem_append_right _ (Jf hp hj)
  ·exact List.mem_append_left _ (C0 hp hj (by omega))
theorem Rs {N : Net} (hs : Sym N.ends) {v j : Nat} (hv : v < N.ends.length) (hj : j < (gl N.ends v).length) : ∃ e ∈ edL N N.ends.length, (e.1 = (v : Int) ∧ e.2.2.1 = (gp (gl N.ends v) j).1) ∨ (e.2.2.1 = (v : Int) ∧ e.1 = (gp (gl N.ends v) j).1) := by
 obtain ⟨h1, h2, h3, h4, h5⟩ := w4 hs hv hj;obtain ⟨-, -, -, -, h6⟩ := w4 hs h1 h2;rw [h3, h4] at h6
 by_cases hp : edP N v j = true
 ·exact ⟨_, C0 hp hj hv, .inl ⟨rfl, rfl⟩⟩
 ·have hq : edP N (nd N v j) (bk N v j) = true := by
   unfold edP at hp ⊢;rw [h6];rw [h5] at hp;simp only [Bool.or_eq_true, Bool.and_eq_true, decide_eq_true_eq, beq_iff_eq] at hp ⊢;omega
  refine ⟨_, C0 hq h2 h1, .inr ⟨by rw [h6], by rw [h5]⟩⟩
def zBIp21 := PLift.up (And.intro ap (And.intro bh (And.intro ce (And.intro bl (And.intro az (And.intro @if_pos.{1} (And.intro @b7 (And.intro @bz (And.intro @bq (And.intro @bt (And.intro iv (And.intro iw @trivial))))))))))))
theorem Uo : type_of% zBIp21.down := zBIp21.down
set_option maxRecDepth 8000 in
set_option maxHeartbeats 0 in
theorem Ep (f : NF) (N : Net) (o : Bool) (t : TypeId) (s : List Int) (hi : N.ids.length ≤ 2097152) (hn : N.ends.length ≤ 1000000) : DCalls Tryz.prog 65 [.agg (bw f N), .c (.sl o t 1 (s.map iC))] (fun r => r = [.c (.p (.bool (bm N && la s 0 ((N.ends.length : Int) - 1))))]) := by
 refine ao Tryz.func65 rfl (by rw [Tryz.ntmps65]; simp) fun w0 => ?_;rw [Tryz.ntmps65];have dX := Uo;simp only [b4, bc, Arg.av, bw, b8, ints, ends];refine ab (dR fun K hK => ?_);(repeat refine eV ?_);refine aa (hK _ (wK [1, 2] ?_));clear hK K;refine ab (dR fun K hK => ?_);(repeat refine eV ?_);refine cL rfl ⟨rfl, _, rfl⟩ (by omega) (by first | exact At | exact Od) (i5 ⟨false, f.t1, f.o2, f.t2, false, f.t3, false, f.t4⟩ N hi) ?_;rintro _ rfl;(repeat refine eV ?_);obtain h1 | h1 := Bool.eq_false_or_eq_true (bm N)
 ·have dX := And.intro dX (@h1);(repeat refine eV ?_);have dX := And.intro dX (@h1);refine cgF rfl rfl ⟨rfl, _, rfl⟩ (by omega) (by first | exact At | exact Od) (Cm o t s 0 ((N.ends.length : Int) - 1)) ?_;rintro _ rfl;(repeat refine eV ?_);have dX := And.intro dX (@h1);(repeat refine eV ?_);have dK := @h1;refine aa (hK _ (ay [4] ?_));clear hK K;exact ak (aq Tryz.results65 (.one (.plain _ _ rfl)) (by decide) (by rw [h1]; rfl))
 ·have dX := And.intro dX (@h1);(repeat refine eV ?_);have dX := And.intro dX (@h1);refine csF ?_;(repeat refine eV ?_);have dX := And.intro dX (@h1);(repeat refine eV ?_);have dK := @h1;refine aa (hK _ (ay [4] ?_));clear hK K;exact ak (aq Tryz.results65 (.one (.plain _ _ rfl)) (by decide) (by rw [h1]; rfl))
end
section
open Go Go.RowKit
theorem Eb (n : Nat) (hn : n ≤ 1048576) : DCalls Tryz.prog 78 [.c (.p (.int .i64 n))] (fun r => r = [.own false [.sl true 3 1 ((ef n).map iC)]]) := yt fun w vs h1 h2 => by
 obtain ⟨u, rfl, g1⟩ := Fr h1 h2;rw [Hv g1];exact (zl n w hn).mono fun e w' ⟨g, he, hg, ho, hb⟩ => ⟨_, he, ho, hb⟩
end
section
def qL (e : Int × Int × Int × Int) : List Int := [e.1, e.2.1, e.2.2.1, e.2.2.2]
theorem yq (N : Net) (v : Nat) : ∀ m, ga N v m = (edN N v m).map qL
 | 0 => rfl
 | m + 1 => by
  rw [kj, yq N v m, edN, yo]
  have : mg N v m = edP N v m := by
   unfold mg edP;rw [Bool.eq_iff_iff];simp
  rw [this];split
  ·simp [qL]
  ·simp
theorem qg (N : Net) : ∀ m, ja N m = (edL N m).map qL
 | 0 => rfl
 | m + 1 => by rw [qf, qg N m, yq, edL, List.map_append]
end
section
open Go Go.RowKit
def Xa (r : Res) : Prop := ∃ N, r = [.agg (netZ N)] ∧ Tame N
end
section
set_option maxHeartbeats 0
set_option maxRecDepth 8000
open Go Go.RowKit
theorem Ga {n : Nat} (h : n ≤ 64) : Tame (cy n) := by
 refine ⟨?_, fun a => ?_, ?_, ?_⟩
 ·show (List.replicate n ([] : List (Int × Int))).length ≤ 64;rw [List.length_replicate]; exact h
 ·show dg (List.replicate n []) a ≤ 600;unfold dg;rw [jf]; simp
 ·show ([] : List Int).length ≤ 64;simp
 ·show (List.replicate n (0 : Int)).length ≤ 64;rw [List.length_replicate]; exact h
def zBCb61 := PLift.up (And.intro ap (And.intro Wb (And.intro ui (And.intro ce (And.intro Wc (And.intro @b7 (And.intro bl (And.intro az (And.intro bh (And.intro @netO.eq_1 (And.intro @netZ.eq_1 (And.intro @if_pos.{1} (And.intro @bz @trivial)))))))))))))
theorem Hk : type_of% zBCb61.down := zBCb61.down
theorem si (bs : List Int) (hby : da bs) : cz Tryz.prog 130 [.c (fx bs)] Xa := by
 refine uf (by simp [Arg.isIo]) Tryz.func130 rfl (by rw [Tryz.ntmps130]; simp) fun w0 => ?_;rw [Tryz.ntmps130];have dX := Hk;simp only [b4, bc, Arg.av, fx];refine ab (dR fun K hK => ?_);(repeat refine eV ?_);refine aa (hK _ (wK [0, 2] ?_));clear hK K;refine ab (dR fun K hK => ?_);(repeat refine eV ?_);refine aa (hK _ (wK [2, 3, 6] ?_));clear hK K;refine ab ?_;refine ab (dR fun K hK => ?_);(repeat refine eV ?_);refine mj rfl ⟨rfl, _, rfl⟩ (by omega) (by first | exact yd) (xq bs 0 0 12 _ hby (Nat.zero_le 0) (by omega)) ?_;rintro _ ⟨p1, s1, _, rfl, hp1, b1, rfl⟩;refine ioF ?_;(repeat refine eV ?_);refine aa (hK _ (wK [2, 3, 6, 8] ?_));clear hK K;refine dI ?_ ?_<;>intro hb
 ·refine ab (dR fun K hK => ?_);(repeat refine eV ?_);refine mj rfl ⟨rfl, _, rfl⟩ (by omega) (by first | exact fc | exact l9) (ev bs p1 s1 2 _ hby hp1 (by omega)) ?_;rintro _ ⟨p2, s2, _, rfl, hp2, x2, rfl, hx2⟩;refine ioF ?_;(repeat refine eV ?_);obtain ⟨k, rfl⟩ := Int.eq_ofNat_of_zero_le hx2.1;have hk : (20 + (k : Int)) = ((20 + k : Nat) : Int) := by omega
  have hk6 : k ≤ 2 := by have := hx2.2.2; omega
  have dX := And.intro dX (@hk);(repeat refine eV ?_);refine cL rfl ⟨rfl, _, rfl⟩ (by omega) (by first | exact fc | exact l9) (li (20 + k) (by omega)) ?_;rintro _ rfl;(repeat refine eV ?_);have dK := @netO.eq_1;refine aa (hK _ (ay [2, 6] ?_));clear hK K;refine t7 2 [2, 6] (by simp only [ac, pZ, simprocAttr]; exact rfl) ?_;exact ak (jw Tryz.results130 (.one (.cell 2 _ _ _ _ rfl rfl ap rfl rfl rfl)) (by decide) ⟨cy (20 + k), rfl, Ga (by omega)⟩)
 ·refine af ?_;show DW _ _ _ _ _;refine ab (dR fun K hK => ?_);(repeat refine eV ?_);refine zq rfl ⟨rfl, _, rfl⟩ (by omega) (by first | exact Wm) (P6 bs p1 s1 9 _ _ rfl hby hp1 (by omega) (by omega) (by omega)) ?_;rintro _ ⟨p3, s3, _, rfl, hp3, N3, rfl, ht3⟩;refine ioF ?_;(repeat refine eV ?_);have dK := @netO.eq_1;refine aa (hK _ (ay [2, 6] ?_));clear hK K;refine t7 2 [2, 6] (by simp only [ac, pZ, simprocAttr]; exact rfl) ?_;exact ak (jw Tryz.results130 (.one (.cell 2 _ _ _ _ rfl rfl ap rfl rfl rfl)) (by decide) ⟨N3, rfl, ht3⟩)
theorem F0 (bs : List Int) (hby : da bs) : cz Tryz.prog 46 [.c (fx bs)] Xa := by
 refine uf (by simp [Arg.isIo]) Tryz.func46 rfl (by rw [Tryz.ntmps46]; simp) fun w0 => ?_;rw [Tryz.ntmps46];have dX := Hk;simp only [b4, bc, Arg.av, fx];refine ab (dR fun K hK => ?_);(repeat refine eV ?_);refine aa (hK _ (wK [0, 2] ?_));clear hK K;refine ab (dR fun K hK => ?_);(repeat refine eV ?_);refine caF rfl ⟨rfl, _, rfl⟩ (by omega) (by first | exact Ud) (si bs hby) ?_;rintro _ ⟨N1, rfl, ht1⟩;(repeat refine eV ?_);refine aa (hK _ (wK [2] ?_));clear hK K;exact ak (jw Tryz.results46 (.one (.cell 2 _ _ _ _ rfl rfl ap rfl rfl rfl)) (by decide) ⟨N1, rfl, ht1⟩)
theorem Nf (o : Bool) (t : TypeId) (xs : List Int) (x : Int) (hl : xs.length ≤ 1000000) : DCalls Tryz.prog 53 [.c (.sl o t 1 (xs.map iC)), .c (.p (.int .i64 x))] (fun r => r = [.c (.p (.bool (decide (x ∈ xs))))]) := by
 refine ao Tryz.func53 rfl (by rw [Tryz.ntmps53]; simp) fun w0 => ?_;rw [Tryz.ntmps53];have dX := Hk;simp only [b4, bc, Arg.av, bw, b8, ints, ends];refine ab (dR fun K hK => ?_);(repeat refine eV ?_);refine aa (hK _ (wK [0, 1] ?_));clear hK K;refine ab ?_;refine ab (dR fun K hK => ?_);(repeat refine eV ?_);refine aa (hK _ (wK [1, 7, 8, 9] ?_));clear hK K;refine ae ?_;refine ax (X := Nat) (fun k => k ≤ xs.length ∧ ∀ j, j < k → gi xs j ≠ x) (fun k => [(9, .c (.p (.int .i64 k)))]) (fun k => []) (fun k => xs.length - k) 0 ⟨Nat.zero_le _, fun j hj => absurd hj (Nat.not_lt_zero j)⟩ (by first | rfl | (simp only [ac, pZ, simprocAttr, Int.natCast_zero] <;> rfl)) ?_;rintro k ⟨hk, hne⟩;intro E hE;simp only [ac, pZ, simprocAttr] at hE;subst hE;refine ab (dR fun K hK => ?_);(repeat refine eV ?_);refine aa (hK _ (wK [1, 7, 8, 9, 10] ?_));clear hK K;refine ab (dI (fun hb => ?_) (fun hb => ?_))
 ·have hk1 : k < xs.length := by simpa using hb
  refine af ?_;show DW _ _ _ _ _;refine ab (ae ?_);refine ab (dR fun K hK => ?_);(repeat refine eV ?_);refine aa (hK _ (wK [1, 6, 7, 8, 9] ?_));clear hK K;refine ab (dR fun K hK => ?_);(repeat refine eV ?_);refine aa (hK _ (wK [1, 7, 8, 9, 15] ?_));clear hK K;refine dI ?_ ?_<;>intro hb
  ·have he : gi xs k = x := by simpa using hb
   have hm : x ∈ xs := by rw [← he, cf hk1]; exact List.getElem_mem hk1
   have hd : decide (x ∈ xs) = true := decide_eq_true hm;refine ab (dR fun K hK => ?_);(repeat refine eV ?_);refine aa (hK _ (wK [4] ?_));clear hK K;exact ak (aq Tryz.results53 (.one (.plain _ _ rfl)) (by decide) (by rw [hd]))
  ·have he : gi xs k ≠ x := by simpa using hb
   refine af ?_;show DW _ _ _ _ _;refine dR fun K hK => ?_;(repeat refine eV ?_);have dK := @bi;refine aa (hK _ ?_);clear hK K;show ∃ x, _ ∧ _ ∧ Weak _ _;refine ⟨k + 1, ?_, ?_, an [1, 7, 8, 9]⟩
   ·refine ⟨hk1, fun j hj => ?_⟩
    by_cases h : j = k
    ·rw [h]; exact he
    ·exact hne j (by omega)
   ·omega
 ·have hk2 : k = xs.length := by
   have : ¬ k < xs.length := by simpa using hb
   omega
  have hd : decide (x ∈ xs) = false := decide_eq_false fun hm => by
   obtain ⟨j, hj, he⟩ := List.getElem_of_mem hm;exact hne j (by omega) (by rw [cf hj]; exact he)
  refine am ?_;refine a7 [] (by simp only [ac, pZ, simprocAttr]; exact rfl) ?_;refine ab (dR fun K hK => ?_);(repeat refine eV ?_);refine aa (hK _ (wK [4] ?_));clear hK K;exact ak (aq Tryz.results53 (.one (.plain _ _ rfl)) (by decide) (by rw [hd]))
end
end Go.Proofs.YtolpiolnhgpjjaaGreat
