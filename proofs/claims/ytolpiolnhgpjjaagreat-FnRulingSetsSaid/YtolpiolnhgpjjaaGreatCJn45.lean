/- Parts of the proof. -/
import Derived.Test.YtolpiolnhgpjjaaGreatCJn41
import Derived.Test.YtolpiolnhgpjjaaGreatCJn37
import Derived.Test.YtolpiolnhgpjjaaGreatCJn40
import Derived.Test.YtolpiolnhgpjjaaGreatCJn31
import Derived.Test.YtolpiolnhgpjjaaGreatCPwq
import Derived.Test.YtolpiolnhgpjjaaGreatCJn9
import Derived.Test.YtolpiolnhgpjjaaGreatCDqo
import Derived.Test.YtolpiolnhgpjjaaGreatCJn26
import Derived.Test.YtolpiolnhgpjjaaGreatCJn29
import Derived.Test.YtolpiolnhgpjjaaGreatCMtr2
import Derived.Test.YtolpiolnhgpjjaaGreatCJn19
import Derived.Test.YtolpiolnhgpjjaaGreatCShelf
import Derived.Test.YtolpiolnhgpjjaaGreatCDf1
import Derived.Test.YtolpiolnhgpjjaaGreatCJn25
import Derived.Test.YtolpiolnhgpjjaaGreatCDt
import Derived.Test.YtolpiolnhgpjjaaGreatCTnd
import Derived.Test.YtolpiolnhgpjjaaGreatCJn23
set_option linter.unusedSimpArgs false
set_option linter.unusedVariables false
namespace Go.Proofs.YtolpiolnhgpjjaaGreat
section
theorem Uv {ord : List Int} {n : Nat} (hp : dc ord n = true) : ∃ rk : Nat → Nat, ∀ i, i < n → rk (gi ord i).toNat = i := by
 obtain ⟨hl, h0, hd⟩ := l9 hp
 have h1 : ∀ v, ∃ i, v < n → i < n ∧ gi ord i = v := fun v => by
  by_cases hv : v < n
  ·obtain ⟨i, hi, he⟩ := xj hp hv; exact ⟨i, fun _ => ⟨hi, he⟩⟩
  ·exact ⟨0, fun h => absurd h hv⟩
 refine ⟨fun v => (h1 v).choose, fun i hi => ?_⟩;have h2 := h0 i hi;obtain ⟨h3, h4⟩ := (h1 (gi ord i).toNat).choose_spec (by omega);have h5 : gi ord (h1 (gi ord i).toNat).choose = gi ord i := by rw [h4]; omega
 rcases Nat.lt_trichotomy (h1 (gi ord i).toNat).choose i with h6 | h6 | h6
 ·exact absurd h5 (hd _ _ h6 hi)
 ·exact h6
 ·exact absurd h5.symm (hd _ _ h6 h3)
section
variable {N : Net} {ord : List Int} {al : Nat}
noncomputable def wiB (N : Net) (al : Nat) (v w : Nat) : Bool := inB (gi (bo N v) w) 0 ((al : Int) - 1)
theorem Dy {v : Nat} {s : List Int} : cx N al v s = false ↔ ∀ x ∈ s, wiB N al v x.toNat = false := by
 unfold cx;constructor
 ·intro h x hx
  cases hw : wiB N al v x.toNat with
  | false => rfl
  | true =>
   obtain ⟨j, hj, he⟩ := List.getElem_of_mem hx;have h2 : jc s.length (fun j => inB (gi (bo N v) (gi s j).toNat) 0 ((al : Int) - 1)) = true := ft.2 ⟨j, hj, by rw [bm hj, he]; exact hw⟩;rw [h] at h2; cases h2
 ·intro h;refine Je fun j hj => ?_;exact h (gi s j) (by rw [bm hj]; exact List.getElem_mem hj)
theorem Li (hs : Sym N.ends) (hp : dc ord N.ends.length = true) (h1 : 1 ≤ al) :
 (∀ v w : Nat, (v : Int) ∈ co (cx N al) ord N.ends.length → (w : Int) ∈ co (cx N al) ord N.ends.length → v ≠ w → inB (gi (bo N v) w) 0 ((al : Int) - 1) = false) ∧
 ∀ v : Nat, v < N.ends.length → ∃ w : Nat, (w : Int) ∈ co (cx N al) ord N.ends.length ∧ inB (gi (bo N v) w) 0 ((al : Int) - 1) = true := by
 obtain ⟨hl, h0, hd⟩ := l9 hp;obtain ⟨rk, hrk⟩ := Uv hp
 have hR : RankSet (fun v => decide (v < N.ends.length)) (wiB N al) rk fun v => (v : Int) ∈ co (cx N al) ord N.ends.length :=
  Mp hp (fun v h => by simpa using h) (fun v s hv _ => by rw [Dy]; simp [hv]) fun i j hi hj => by rw [hrk i hi, hrk j hj]
 constructor
 ·intro v w hv hw hne;refine hR.apart (fun v w hv hw => ?_) (fun v w hv hw he => ?_) hv hw hne
  ·simp at hv hw;unfold wiB;rw [F9 hs hv hw]
  ·simp at hv hw;obtain ⟨i, hi, hie⟩ := xj hp hv;obtain ⟨j, hj, hje⟩ := xj hp hw;have h2 := hrk i hi;have h3 := hrk j hj;rw [hie, Int.toNat_natCast] at h2;rw [hje, Int.toNat_natCast] at h3;have : i = j := by omega
   subst this;omega
 ·intro v hv
  by_cases h2 : (v : Int) ∈ co (cx N al) ord N.ends.length
  ·refine ⟨v, h2, ?_⟩;rw [(c9 hs hv).root];exact ce.2 (by omega)
  ·obtain ⟨w, hw, hn, -⟩ := hR.cover (v := v) (by simpa using hv) h2;exact ⟨w, hw, hn⟩
end
end
section
theorem md {bad : Nat → List Int → Bool} {ord : List Int} {n : Nat} (hp : dc ord n = true) : ∀ k, k ≤ n → (co bad ord k).Nodup
 | 0, _ => List.nodup_nil
 | k + 1, hk => by
  rw [co];split
  ·exact md hp k (by omega)
  ·refine List.nodup_append.2 ⟨md hp k (by omega), by simp, fun x hx y hy he => ?_⟩;obtain ⟨i, hi, hx⟩ := fp k hx;rw [List.mem_singleton] at hy;exact (l9 hp).2.2 i k hi (by omega) (by rw [← hx, he, hy])
section
variable {N : Net}
end
end
section
open Go Go.RowKit
def zBIp11 := PLift.up (And.intro ap (And.intro bc (And.intro b9 (And.intro bg (And.intro ay (And.intro @if_pos.{1} (And.intro @b6 (And.intro @bq (And.intro @ba (And.intro @a8 @trivial))))))))))
theorem Vn : type_of% zBIp11.down := zBIp11.down
set_option maxRecDepth 8000 in
set_option maxHeartbeats 0 in
theorem Kh (t : TypeId) (xs : List Int) (n : Int) (hl : xs.length ≤ 1000000) (ht : t = 3) : r3 Tryz.prog 61 false [.sl true t 1 (xs.map iC)] [.c (.p (.int .i64 n))] (fun r => r = [.own false [.sl true 3 1 ((na xs n).map iC)]]) := by
 subst ht;refine Mr Tryz.func61 rfl (by rw [Tryz.ntmps61]; simp) fun w0 => ?_;rw [Tryz.ntmps61];have dX := Vn;simp only [zh, bd, Arg.av, List.length_cons, List.length_nil, Nat.reduceAdd];refine ab (dR fun K hK => ?_);(repeat refine eV ?_);refine aa (hK _ (wK [0, 1] ?_));clear hK K;refine ab (dR fun K hK => ?_);(repeat refine eV ?_);refine aa (hK _ (wK [0, 1, 5] ?_));clear hK K;refine ab (ae ?_);refine au (X := Nat) (fun k => k ≤ xs.length ∧ ∀ j, j < k → gi xs j < n) (fun k => [(5, .c (.p (.int .i64 k)))]) (fun k => []) (fun k => xs.length - k) 0 ⟨Nat.zero_le _, fun j hj => absurd hj (Nat.not_lt_zero j)⟩ (by first | rfl | (simp only [ac, pZ, simprocAttr, Int.natCast_zero] <;> rfl)) ?_;rintro k ⟨hk, hlt⟩;intro E hE;simp only [ac, pZ, simprocAttr] at hE;subst hE;have hcf : gb xs k xs.length = xs.drop k := Qj rfl;have hdl : (xs.drop k).length = xs.length - k := List.length_drop;have htl : (xs.take k).length = k := by rw [List.length_take]; omega
 have htl2 : (xs.take k ++ [n]).length = k + 1 := by simp; omega
 by_cases h1 : k < xs.length
 ·have d1 : decide ((k : Int) < (xs.length : Int)) = true := decide_eq_true (by omega)
  by_cases h2 : gi xs k < n
  ·have d2 : decide (gi xs k < n) = true := decide_eq_true h2;refine ab ?_;have dX := And.intro dX (And.intro @d1 @d2);refine ab (dR fun K hK => ?_);(repeat refine eV ?_);have dK := And.intro @d1 @d2;refine aa (hK _ (ax [0, 1, 5, 18] ?_));clear hK K;refine dI ?_ ?_<;>intro hb
   ·refine af ?_;show DW _ _ _ _ _;refine ae ?_;refine dR fun K hK => ?_;(repeat refine eV ?_);have dK := @bt;refine aa (hK _ ?_);clear hK K;show ∃ x, _ ∧ _ ∧ Weak _ _;refine ⟨k + 1, ?_, ?_, aq [0, 1, 5]⟩
    ·exact ⟨h1, fun j hj => by by_cases h : j = k; exact h ▸ h2; exact hlt j (by omega)⟩
    ·omega
   ·cases hb
  ·have d2 : decide (gi xs k < n) = false := decide_eq_false h2;refine ab ?_;have dX := And.intro dX (And.intro @d1 @d2);refine ab (dR fun K hK => ?_);(repeat refine eV ?_);have dK := And.intro @d1 @d2;refine aa (hK _ (ax [0, 1, 5, 18] ?_));clear hK K;refine dI ?_ ?_<;>intro hb
   ·cases hb
   ·refine ao ?_;refine bb [0, 1, 5] (by simp only [ac, pZ, simprocAttr]; exact rfl) ?_
    by_cases h3 : gi xs k = n
    ·have d3 : (gi xs k == n) = true := by simpa using h3
     have hp : na xs n = xs := by rw [xg hk hlt (fun _ => h2), if_pos ⟨h1, h3⟩]
     refine ab ?_;have dX := And.intro dX (And.intro @d1 @d3);refine ab (dR fun K hK => ?_);(repeat refine eV ?_);have dK := And.intro @d1 @d3;refine aa (hK _ (ax [0, 1, 5, 32] ?_));clear hK K;refine dI ?_ ?_<;>intro hb
     ·refine ab (dR fun K hK => ?_);(repeat refine eV ?_);refine aa (hK _ (wK [4] ?_));clear hK K;exact ak (an Tryz.results61 (.one (.own _ _ _ _ rfl rfl (own1 (az _ _)))) (by decide) (by rw [hp]))
     ·cases hb
    ·have d3 : (gi xs k == n) = false := by simpa using h3
     have hp : na xs n = xs.take k ++ [n] ++ xs.drop k := by rw [xg hk hlt (fun _ => h2), if_neg fun h => h3 h.2]; simp
     refine ab ?_;have dX := And.intro dX (And.intro @d1 @d3);refine ab (dR fun K hK => ?_);(repeat refine eV ?_);have dK := And.intro @d1 @d3;refine aa (hK _ (ax [0, 1, 5, 32] ?_));clear hK K;refine dI ?_ ?_<;>intro hb
     ·cases hb
     ·refine af ?_;show DW _ _ _ _ _;refine mh 0 [0, 1, 5] rfl rfl (by simp only [ac, pZ, simprocAttr, sj, qc, jf, je, fw]; exact rfl) ?_;have dX := And.intro dX (And.intro @Int.toNat_natCast (And.intro @i7 @Dv));refine ab (dR fun K hK => ?_);(repeat refine eV ?_);have dK := And.intro @i7 @Dv;refine aa (hK _ (ax [0, 1, 5, 6] ?_));clear hK K;refine ab (dR fun K hK => ?_);(repeat refine eV ?_);have dK := @ef;refine aa (hK _ (ax [0, 5, 6] ?_));clear hK K;have dX := And.intro dX (And.intro @Int.toNat_natCast (And.intro @i7 @hcf));refine ab (dR fun K hK => ?_);(repeat refine eV ?_);have dK := And.intro @i7 (And.intro @hcf @D1);refine aa (hK _ (ax [4] ?_));clear hK K;exact ak (an Tryz.results61 (.one (.own _ _ _ _ rfl rfl (own1 (az _ _)))) (by decide) (by rw [hp]))
 ·have d1 : decide ((k : Int) < (xs.length : Int)) = false := decide_eq_false (by omega);have hp : na xs n = xs.take k ++ [n] ++ xs.drop k := by rw [xg hk hlt (fun h => absurd h h1), if_neg fun h => h1 h.1]; simp
  refine ab ?_;have dX := And.intro dX (@d1);refine ab (dR fun K hK => ?_);(repeat refine eV ?_);have dK := @d1;refine aa (hK _ (ax [0, 1, 5, 18] ?_));clear hK K;refine dI ?_ ?_<;>intro hb
  ·cases hb
  ·refine ao ?_;refine bb [0, 1, 5] (by simp only [ac, pZ, simprocAttr]; exact rfl) ?_;refine ab ?_;have dX := And.intro dX (@d1);refine ab (dR fun K hK => ?_);(repeat refine eV ?_);have dK := @d1;refine aa (hK _ (ax [0, 1, 5, 32] ?_));clear hK K;refine dI ?_ ?_<;>intro hb
   ·cases hb
   ·refine af ?_;show DW _ _ _ _ _;refine mh 0 [0, 1, 5] rfl rfl (by simp only [ac, pZ, simprocAttr, sj, qc, jf, je, fw]; exact rfl) ?_;have dX := And.intro dX (And.intro @Int.toNat_natCast (And.intro @i7 @Dv));refine ab (dR fun K hK => ?_);(repeat refine eV ?_);have dK := And.intro @i7 @Dv;refine aa (hK _ (ax [0, 1, 5, 6] ?_));clear hK K;refine ab (dR fun K hK => ?_);(repeat refine eV ?_);have dK := @ef;refine aa (hK _ (ax [0, 5, 6] ?_));clear hK K;have dX := And.intro dX (And.intro @Int.toNat_natCast (And.intro @i7 @hcf));refine ab (dR fun K hK => ?_);(repeat refine eV ?_);have dK := And.intro @i7 (And.intro @hcf @D1);refine aa (hK _ (ax [4] ?_));clear hK K;exact ak (an Tryz.results61 (.one (.own _ _ _ _ rfl rfl (own1 (az _ _)))) (by decide) (by rw [hp]))
end
section
open Go Go.RowKit
theorem Dg (o : Bool) (t : TypeId) (xs : List Int) (lo hi : Int) : DCalls Tryz.prog 152 [.c (.sl o t 1 (xs.map iC)), .c (.p (.int .i64 lo)), .c (.p (.int .i64 hi))] (fun r => r = [.c (.p (.bool (js xs lo hi)))]) := ga fun w vs h1 h2 => by
 obtain ⟨u, v, t2, rfl, g1, g2, g3⟩ := Qy h1 h2;rw [rn g2, rn g3];exact (nz u xs lo hi w (mq g1)).mono fun _ _ h => RetQ.v h
def zBIp21 := PLift.up (And.intro ap (And.intro bc (And.intro b9 (And.intro bg (And.intro ay (And.intro @if_pos.{1} (And.intro @b6 (And.intro @bq (And.intro @ba (And.intro @a8 (And.intro W5 (And.intro W6 @trivial))))))))))))
theorem Vm : type_of% zBIp21.down := zBIp21.down
set_option maxRecDepth 8000 in
set_option maxHeartbeats 0 in
theorem ny (f : NF) (N : Net) (o : Bool) (t : TypeId) (s : List Int) (hi : N.ids.length ≤ 2097152) (hn : N.ends.length ≤ 1000000) : DCalls Tryz.prog 65 [.agg (bi f N), .c (.sl o t 1 (s.map iC))] (fun r => r = [.c (.p (.bool (bj N && js s 0 ((N.ends.length : Int) - 1))))]) := by
 refine am Tryz.func65 rfl (by rw [Tryz.ntmps65]; simp) fun w0 => ?_;rw [Tryz.ntmps65];have dX := Vm;simp only [b4, bd, Arg.av, bi, b7, ints, ends];refine ab (dR fun K hK => ?_);(repeat refine eV ?_);refine aa (hK _ (wK [1, 2] ?_));clear hK K;refine ab (dR fun K hK => ?_);(repeat refine eV ?_);refine cL rfl ⟨rfl, _, rfl⟩ (by omega) (by first | exact mt | exact Pj) (ez ⟨false, f.t1, f.o2, f.t2, false, f.t3, false, f.t4⟩ N hi) ?_;rintro _ rfl;(repeat refine eV ?_);obtain h1 | h1 := Bool.eq_false_or_eq_true (bj N)
 ·have dX := And.intro dX (@h1);(repeat refine eV ?_);have dX := And.intro dX (@h1);refine cgF rfl rfl ⟨rfl, _, rfl⟩ (by omega) (by first | exact mt | exact Pj) (Dg o t s 0 ((N.ends.length : Int) - 1)) ?_;rintro _ rfl;(repeat refine eV ?_);have dX := And.intro dX (@h1);(repeat refine eV ?_);have dK := @h1;refine aa (hK _ (ax [4] ?_));clear hK K;exact ak (an Tryz.results65 (.one (.plain _ _ rfl)) (by decide) (by rw [h1]; rfl))
 ·have dX := And.intro dX (@h1);(repeat refine eV ?_);have dX := And.intro dX (@h1);refine csF ?_;(repeat refine eV ?_);have dX := And.intro dX (@h1);(repeat refine eV ?_);have dK := @h1;refine aa (hK _ (ax [4] ?_));clear hK K;exact ak (an Tryz.results65 (.one (.plain _ _ rfl)) (by decide) (by rw [h1]; rfl))
end
section
open Go Go.RowKit
theorem nl (n : Nat) (hn : n ≤ 1048576) : DCalls Tryz.prog 78 [.c (.p (.int .i64 n))] (fun r => r = [.own false [.sl true 3 1 ((dh n).map iC)]]) := Ga fun w vs h1 h2 => by
 obtain ⟨u, rfl, g1⟩ := Cm h1 h2;rw [rn g1];exact (Ao n w hn).mono fun e w' ⟨g, he, hg, ho, hb⟩ => ⟨_, he, ho, hb⟩
end
section
open Go Go.RowKit
def Yx (r : Res) : Prop := ∃ N, r = [.agg (netZ N)] ∧ Tame N
end
section
open Go Go.RowKit
def zBDf51 := PLift.up (And.intro ap (And.intro bg (And.intro bc (And.intro b9 (And.intro @b6 (And.intro @if_pos.{1} (And.intro @netO.eq_1 (And.intro @netZ.eq_1 (And.intro @bq @trivial)))))))))
theorem Vz : type_of% zBDf51.down := zBDf51.down
set_option maxRecDepth 8000 in
set_option maxHeartbeats 0 in
theorem Aj (n : Nat) (h1 : 1 ≤ n) (h2 : n ≤ 40) : DCalls Tryz.prog 102 [.c (.p (.int .i64 n))] (fun r => r = [.own true (netO (lv n n)), .c (.p (.bool true))]) := by
 have hin : inB (n : Int) 1 40 = true := ce.2 (by omega);refine am Tryz.func102 rfl (by rw [Tryz.ntmps102]; simp) fun w0 => ?_;rw [Tryz.ntmps102];have dX := Vz;simp only [b4, bd, Arg.av, bi, b7, ints, ends];refine ab (dR fun K hK => ?_);(repeat refine eV ?_);refine aa (hK _ (wK [0, 2] ?_));clear hK K;refine ab ?_;refine ab (dR fun K hK => ?_);(repeat refine eV ?_);refine cL rfl ⟨rfl, _, rfl⟩ (by omega) (by first | exact qe) (uq n 1 40) ?_;rintro _ rfl;(repeat refine eV ?_);have dK := @hin;refine aa (hK _ (ax [0, 2, 6] ?_));clear hK K;refine dI ?_ ?_<;>intro hb
 ·cases hb
 ·refine af ?_;show DW _ _ _ _ _;refine ab (dR fun K hK => ?_);(repeat refine eV ?_);refine cL rfl ⟨rfl, _, rfl⟩ (by omega) (by first | exact U4) (Mw n (by omega) (by omega)) ?_;rintro _ rfl;(repeat refine eV ?_);have dK := @netO.eq_1;refine aa (hK _ (ax [2, 3] ?_));clear hK K;exact ak (an Tryz.results102 (.two (.cell 2 _ _ _ _ rfl rfl ap rfl rfl (a7 _)) (.plain _ _ rfl)) (by decide) rfl)
end
section
set_option maxHeartbeats 0
set_option maxRecDepth 8000
open Go Go.RowKit
def drawGrSt3 : Nat → Stat
 | 0 => ⟨[6], [(6, 1)], [6], [12], [], []⟩
 | 1 => ⟨[5], [], [], [13], [], []⟩
 | 2 => ⟨[6], [(6, 1)], [6], [14], [], []⟩
 | 3 => ⟨[13, 14], [], [9], [15], [(9, 1)], []⟩
 | 4 => ⟨[5], [], [], [16], [], []⟩
 | 5 => ⟨[], [], [], [17], [], []⟩
 | 6 => ⟨[16, 17], [(17, 1)], [9, 17], [18], [(9, 1)], []⟩
 | 7 => ⟨[2, 12], [(2, 1)], [], [], [(2, 1)], []⟩
 | 8 => ⟨[15], [(15, 1)], [15], [3], [(15, 1)], []⟩
 | 9 => ⟨[18], [], [], [4], [], []⟩
 | _ => ⟨[], [], [], [], [], []⟩
def zBRb61 := PLift.up (And.intro ap (And.intro W7 (And.intro vq (And.intro b9 (And.intro W8 (And.intro @b6 (And.intro bg (And.intro ay (And.intro bc (And.intro @netO.eq_1 (And.intro @netZ.eq_1 (And.intro @if_pos.{1} (And.intro @bq @trivial)))))))))))))
theorem Iy : type_of% zBRb61.down := zBRb61.down
theorem wt (bs : List Int) (p : Nat) (s : Int) (f : NF) (N : Net) (B : Nat) (hby : da bs) (hp : p ≤ B) (hB : B + 1000 ≤ 4611686018427387900) (ht : Tame N) : de Tryz.prog 90 [.io 70 (curC bs p s), .agg (bi f N)] (CurO bs (B + 1000) fun rs => ∃ ps : List Int, rs = [.own false [.sl true 3 1 (ps.map iC)]] ∧ ps.length ≤ 65) := by
 have hlen := ht.len;refine fb Tryz.func90 rfl (by rw [Tryz.ntmps90]; simp) fun w0 => ?_;rw [Tryz.ntmps90];have dX := Iy;simp only [im, bd, Arg.av, curC, bi, b7, ints, ends];refine ab (dR fun K hK => ?_);(repeat refine eV ?_);refine aa (hK _ (wK [0, 3, 17] ?_));clear hK K;refine ab (dR fun K hK => ?_);(repeat refine eV ?_);refine j9 rfl ⟨rfl, _, rfl⟩ (by omega) (by first | exact Kf) (Hv bs p s N.ends.length B hby hp (by omega) (by omega)) ?_;rintro _ ⟨p1, s1, _, rfl, hp1, l1, rfl, hl1⟩;refine ioF ?_;(repeat refine eV ?_);refine aa (hK _ (wK [0, 5, 17] ?_));clear hK K;have hll : l1.length = N.ends.length := by rw [hl1.length_eq, dp]
 refine ab ?_;refine ab (dR fun K hK => ?_);(repeat refine eV ?_);refine j9 rfl ⟨rfl, _, rfl⟩ (by omega) (by first | exact we) (v7 bs p1 s1 24 _ hby hp1 (by omega)) ?_;rintro _ ⟨p2, s2, _, rfl, hp2, b2, rfl⟩;refine ioF ?_;(repeat refine eV ?_);refine aa (hK _ (wK [5, 12, 17] ?_));clear hK K;refine dI ?_ ?_<;>intro hb
 ·refine ab (dR fun K hK => ?_);(repeat refine eV ?_);have dK := @ef;refine aa (hK _ (ax [4, 17] ?_));clear hK K;exact ak (bn Tryz.results90 Tryz.ntmps90 (.one (.re _ _ (.own _ _ _ _ rfl rfl (own1 (az _ _))))) (by decide) (by decide) rfl rfl rfl ⟨p2, s2, _, rfl, by omega, _, rfl, by rw [List.length_append, hll]; show _ + 1 ≤ 65; omega⟩)
 ·refine af ?_;show DW _ _ _ _ _;refine ab (dR fun K hK => ?_);(repeat refine eV ?_);refine aa (hK _ (wK [4, 17] ?_));clear hK K;exact ak (bn Tryz.results90 Tryz.ntmps90 (.one (.re _ _ (.own _ _ _ _ rfl rfl (own1 (az _ _))))) (by decide) (by decide) rfl rfl rfl ⟨p2, s2, _, rfl, by omega, _, rfl, by omega⟩)
theorem r4 (bs : List Int) (hby : da bs) : de Tryz.prog 20 [.c (fq bs)] (fun r => ∃ (N : Net) (l : List Int) (d : Int), r = [.agg (netZ N), .own false [.sl true 3 1 (l.map iC)], .c (.p (.int .i64 d))] ∧ Tame N ∧ l.length ≤ 65) := by
 refine vh (by simp [Arg.isIo]) Tryz.func20 rfl (by rw [Tryz.ntmps20]; simp) fun w0 => ?_;rw [Tryz.ntmps20];have dX := Iy;simp only [b4, bd, Arg.av, fq];refine ab (dR fun K hK => ?_);(repeat refine eV ?_);refine aa (hK _ (wK [0, 2] ?_));clear hK K;refine ab (dR fun K hK => ?_);(repeat refine eV ?_);refine aa (hK _ (wK [2, 5, 9] ?_));clear hK K;refine ab (dR fun K hK => ?_);(repeat refine eV ?_);refine pu rfl ⟨rfl, _, rfl⟩ (by omega) (by first | exact Tw) (J7 bs 0 0 8 _ 0 rfl hby (Nat.zero_le 0) (by omega) (by omega) (by omega)) ?_;rintro _ ⟨p1, s1, _, rfl, hp1, N1, rfl, ht1⟩;refine ioF ?_;(repeat refine eV ?_);have dK := @netO.eq_1;refine aa (hK _ (ax [2, 5, 6, 9] ?_));clear hK K;refine zo 6 [2, 5, 6, 9] (by simp only [ac, pZ, simprocAttr]; exact rfl) ?_;have hl1 := ht1.len;have dX := And.intro dX (@drawGrSt3.eq_def);refine ab (fk drawGrSt3 (fun j r => match j with | 3 => CurO bs (0 + (600000000000000000) + 1000) (fun rs => ∃ ps : List Int, rs = [.own false [.sl true 3 1 (ps.map iC)]] ∧ ps.length ≤ 65) r | 6 => CurO bs (0 + (600000000000000000) + 1000 + 2) (fun rs => ∃ x, rs = [.c (.p (.int .i64 x))] ∧ rq [1, 2, 2, 3, 3, 4, 40, 41, 0] x) r | _ => True) fun K hK => ?_);(repeat refine dV ?_);have dX := And.intro dX (@drawGrSt3.eq_def);refine X6 rfl ⟨rfl, _, rfl⟩ (by omega) (by first | exact Tv | exact v8) (wt bs p1 s1 NFz N1 (0 + (600000000000000000)) hby (by omega) (by omega) ht1) (CurO.ex ⟨_, [], rfl, by simp⟩) ?_;rintro _ ⟨p2, s2, _, rfl, hp2, l2, rfl, hl2⟩;refine pr ?_;(repeat refine dV ?_);have dX := And.intro dX (@drawGrSt3.eq_def);refine tq rfl ⟨rfl, _, rfl⟩ (by omega) (by first | exact Tv | exact v8) (po bs p2 s2 _ _ [1, 2, 2, 3, 3, 4, 40, 41, 0] (0 + (600000000000000000) + 1000) hby (by omega) (by omega) (by simp) (by simp)) (CurO.ex ⟨_, _, rfl, 0, by simp, rfl⟩) ?_;rintro _ ⟨p3, s3, _, rfl, hp3, x3, rfl, hx3⟩;refine pr ?_;(repeat refine dV ?_);refine br (hK _ (wK [2, 3, 4, 9] ?_));clear hK K;exact ak (jy Tryz.results20 (.three (.cell 2 _ _ _ _ rfl rfl ap rfl rfl rfl) (.re _ _ (.own _ _ _ _ rfl rfl (own1 (az _ _)))) (.re _ _ (.plain _ _ rfl))) (by decide) ⟨N1, l2, x3, rfl, ht1, hl2⟩)
theorem nc (bs : List Int) (hby : da bs) : de Tryz.prog 27 [.c (fq bs)] Yx := by
 refine vh (by simp [Arg.isIo]) Tryz.func27 rfl (by rw [Tryz.ntmps27]; simp) fun w0 => ?_;rw [Tryz.ntmps27];have dX := Iy;simp only [b4, bd, Arg.av, fq];refine ab (dR fun K hK => ?_);(repeat refine eV ?_);refine aa (hK _ (wK [0, 2] ?_));clear hK K;refine ab (dR fun K hK => ?_);(repeat refine eV ?_);refine aa (hK _ (wK [2, 3, 8] ?_));clear hK K;refine ab ?_;refine ab (dR fun K hK => ?_);(repeat refine eV ?_);refine j9 rfl ⟨rfl, _, rfl⟩ (by omega) (by first | exact we) (v7 bs 0 0 12 _ hby (Nat.zero_le 0) (by omega)) ?_;rintro _ ⟨p1, s1, _, rfl, hp1, b1, rfl⟩;refine ioF ?_;(repeat refine eV ?_);refine aa (hK _ (wK [2, 3, 8, 10] ?_));clear hK K;refine dI ?_ ?_<;>intro hb
 ·refine ab (dR fun K hK => ?_);(repeat refine eV ?_);refine j9 rfl ⟨rfl, _, rfl⟩ (by omega) (by first | exact v8 | exact Pu) (po bs p1 s1 _ _ [12, 14, 15] _ hby hp1 (by omega) (by simp) (by simp)) ?_;rintro _ ⟨p2, s2, _, rfl, hp2, x2, rfl, hx2⟩;refine ioF ?_;(repeat refine eV ?_)
  obtain ⟨k, hk1, hk2, hk3⟩ : ∃ k : Nat, x2 = k ∧ 1 ≤ k ∧ k ≤ 15 := by
   obtain ⟨j, hj, rfl⟩ := hx2
   match j, hj with
   | 0, _ => exact ⟨12, rfl, by omega, by omega⟩
   | 1, _ => exact ⟨14, rfl, by omega, by omega⟩
   | 2, _ => exact ⟨15, rfl, by omega, by omega⟩
  subst hk1;(repeat refine eV ?_);refine cL rfl ⟨rfl, _, rfl⟩ (by omega) (by first | exact v8 | exact Pu) (Aj k hk2 (by omega)) ?_;rintro _ rfl;(repeat refine eV ?_);have dK := @netO.eq_1;refine aa (hK _ (ax [2, 4, 8] ?_));clear hK K;refine zo 4 [2, 4, 8] (by simp only [ac, pZ, simprocAttr]; exact rfl) ?_;refine ab (dR fun K hK => ?_);(repeat refine eV ?_);refine aa (hK _ (wK [2, 8] ?_));clear hK K;exact ak (jy Tryz.results27 (.one (.cell 2 _ _ _ _ rfl rfl ap rfl rfl rfl)) (by decide) ⟨lv k k, rfl, Oa (by omega)⟩)
 ·refine af ?_;show DW _ _ _ _ _;refine ab (dR fun K hK => ?_);(repeat refine eV ?_);refine pu rfl ⟨rfl, _, rfl⟩ (by omega) (by first | exact Tw) (J7 bs p1 s1 8 _ _ rfl hby hp1 (by omega) (by omega) (by omega)) ?_;rintro _ ⟨p3, s3, _, rfl, hp3, N3, rfl, ht3⟩;refine ioF ?_;(repeat refine eV ?_);have dK := @netO.eq_1;refine aa (hK _ (ax [2, 8] ?_));clear hK K;refine zo 2 [2, 8] (by simp only [ac, pZ, simprocAttr]; exact rfl) ?_;exact ak (jy Tryz.results27 (.one (.cell 2 _ _ _ _ rfl rfl ap rfl rfl rfl)) (by decide) ⟨N3, rfl, ht3⟩)
end
end Go.Proofs.YtolpiolnhgpjjaaGreat
