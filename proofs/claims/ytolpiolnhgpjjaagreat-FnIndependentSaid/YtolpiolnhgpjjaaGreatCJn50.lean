/- Parts of the proof. -/
import Derived.Test.YtolpiolnhgpjjaaGreatCJn46
import Derived.Test.YtolpiolnhgpjjaaGreatCJn41
import Derived.Test.YtolpiolnhgpjjaaGreatCRko
import Derived.Test.YtolpiolnhgpjjaaGreatCJn35
import Derived.Test.YtolpiolnhgpjjaaGreatCPwq
import Derived.Test.YtolpiolnhgpjjaaGreatCDqo
import Derived.Test.YtolpiolnhgpjjaaGreatCJn31
import Derived.Test.YtolpiolnhgpjjaaGreatCJn32
import Derived.Test.YtolpiolnhgpjjaaGreatCJn23
import Derived.Test.YtolpiolnhgpjjaaGreatCJn22
import Derived.Test.YtolpiolnhgpjjaaGreatCDpi
set_option linter.unusedSimpArgs false
set_option linter.unusedVariables false
namespace Go.Proofs.YtolpiolnhgpjjaaGreat
section
section
variable {N : Net}
theorem em {v : Nat} {u : Int} : b8 N v u = true ↔ ∃ j, j < (gl N.ends v).length ∧ (gp (gl N.ends v) j).1 = u := by
 unfold b8;rw [me];simp
theorem ur (hs : Sym N.ends) {v w : Nat} (h : b8 N v w = true) : b8 N w v = true := by
 obtain ⟨j, hj, he⟩ := em.1 h
 have hv : v < N.ends.length := by
  refine Classical.byContradiction fun h1 => ?_;have := Gd (ess := N.ends) h1;unfold dg at this; omega
 obtain ⟨b, i, e, hb, hi, e2⟩ := hs v j hv hj;have e' : gp (gl N.ends v) j = ((b : Int), (i : Int)) := e;rw [e'] at he;obtain rfl : b = w := by have h3 : (b : Int) = w := he; omega
 have e2' : gp (gl N.ends b) i = ((v : Int), (j : Int)) := e2;exact em.2 ⟨i, hi, by rw [e2']⟩
theorem D7 (hs : Sym N.ends) (v w : Nat) : b8 N v w = b8 N w v := by
 rw [Bool.eq_iff_iff];exact ⟨ur hs, ur hs⟩
theorem gh {v : Nat} {s : List Int} : dq N v s = true ↔ ∃ x ∈ s, b8 N v x = true := by
 unfold dq;rw [me];constructor
 ·rintro ⟨j, hj, h⟩;exact ⟨_, B2.1 (by simpa using h), em.2 ⟨j, hj, rfl⟩⟩
 ·rintro ⟨x, hx, h⟩;obtain ⟨j, hj, he⟩ := em.1 h;exact ⟨j, hj, by rw [he]; simpa using B2.2 hx⟩
theorem Ng {v : Nat} {s : List Int} (hv : v < N.ends.length) (h0 : ∀ x ∈ s, 0 ≤ x) : dm N v s = false ↔ (decide (v < N.ends.length) && !b8 N v v) = true ∧ ∀ x ∈ s, b8 N v (x.toNat : Nat) = false := by
 have h1 : dq N v s = false ↔ ∀ x ∈ s, b8 N v (x.toNat : Nat) = false := by
  constructor
  ·intro h x hx
   cases hj : b8 N v (x.toNat : Nat) with
   | false => rfl
   | true =>
    have := gh.2 ⟨x, hx, by rwa [show ((x.toNat : Nat) : Int) = x by have := h0 x hx; omega] at hj⟩;rw [h] at this; cases this
  ·intro h
   cases hn : dq N v s with
   | false => rfl
   | true =>
    obtain ⟨x, hx, hj⟩ := gh.1 hn;have h2 := h x hx;rw [show ((x.toNat : Nat) : Int) = x by have := h0 x hx; omega, hj] at h2;cases h2
 rw [← h1];unfold dm;simp [hv]
theorem Pn {ord : List Int} {rk : Nat → Nat} (hp : ff ord N.ends.length = true) (hrk : ∀ i j, i < N.ends.length → j < N.ends.length → (rk (gi ord i).toNat < rk (gi ord j).toNat ↔ i < j)) :
 RankSet (fun v => decide (v < N.ends.length) && !b8 N v v) (fun v w => b8 N v w) rk fun v => (v : Int) ∈ cd (dm N) ord N.ends.length :=
 O5 hp (fun v h => by simp at h; exact h.1) (fun v s hv h0 => Ng hv h0) hrk
def d7 (N : Net) : Nat → List Int
 | 0 => []
 | k + 1 => if b8 N k k = true then d7 N k else d7 N k ++ [(k : Int)]
theorem jl : ∀ {k : Nat} {x : Int}, x ∈ d7 N k ↔ 0 ≤ x ∧ x.toNat < k ∧ b8 N x.toNat (x.toNat : Nat) = false
 | 0, x => by simp [d7]
 | k + 1, x => by
  rw [d7]
  by_cases h : b8 N k k = true
  ·rw [if_pos h, jl];constructor
   ·rintro ⟨h1, h2, h3⟩; exact ⟨h1, by omega, h3⟩
   ·rintro ⟨h1, h2, h3⟩;refine ⟨h1, ?_, h3⟩
    by_cases h4 : x.toNat = k
    ·rw [h4, h] at h3; cases h3
    ·omega
  ·rw [if_neg h, List.mem_append, jl, List.mem_singleton];constructor
   ·rintro (⟨h1, h2, h3⟩ | rfl)
    ·exact ⟨h1, by omega, h3⟩
    ·refine ⟨Int.natCast_nonneg k, by simp, ?_⟩;rw [Int.toNat_natCast]; simpa using h
   ·rintro ⟨h1, h2, h3⟩
    by_cases h4 : x.toNat = k
    ·right; omega
    ·left; exact ⟨h1, by omega, h3⟩
theorem yu (hs : Sym N.ends) {rk : Nat → Nat} (hinj : ∀ v w, v < N.ends.length → w < N.ends.length → rk v = rk w → v = w) {k : Nat} (hk : cp (fun v w => b8 N v w) rk (d7 N N.ends.length) k = []) :
 RankSet (fun v => decide (v < N.ends.length) && !b8 N v v) (fun v w => b8 N v w) rk fun v => (v : Int) ∈ jp (fun v w => b8 N v w) rk (d7 N N.ends.length) k := by
 have h := RndOk.all_k (nr := fun v w => b8 N v w) (rk := rk) (O := d7 N N.ends.length) (ok := fun v => decide (v < N.ends.length) && !b8 N v v) (fun x => by rw [jl]; simp) (fun v w => D7 hs v w) (fun v hv => by simp at hv; exact hv.2) (fun v w hv hw => by simp at hv hw; exact hinj v w hv.1 hw.1) k;rw [hk] at h;exact h.rank
end
end
section
theorem o0 {nr : Nat → Nat → Bool} {rk : Nat → Nat} {O : List Int} (hO : O.Nodup) : ∀ k, (jp nr rk O k).Nodup ∧ (cp nr rk O k).Nodup ∧ ∀ x ∈ jp nr rk O k, x ∉ cp nr rk O k
 | 0 => ⟨List.nodup_nil, hO, fun x hx => absurd hx List.not_mem_nil⟩
 | k + 1 => by
  obtain ⟨h1, h2, h3⟩ := o0 (nr := nr) (rk := rk) hO k;rw [jp, cp];refine ⟨List.nodup_append.2 ⟨h1, h2.filter _, fun x hx y hy he => ?_⟩, h2.filter _, fun x hx hy => ?_⟩
  ·subst he; exact h3 x hx (jt.1 hy).1
  ·obtain ⟨g1, g2, -⟩ := wn.1 hy
   rcases List.mem_append.1 hx with hx | hx
   ·exact h3 x hx g1
   ·exact g2 hx
theorem kn (N : Net) : ∀ k, (d7 N k).Nodup
 | 0 => List.nodup_nil
 | k + 1 => by
  rw [d7];split
  ·exact kn N k
  ·refine List.nodup_append.2 ⟨kn N k, by simp, fun x hx y hy he => ?_⟩;have h1 := (jl.1 hx).2.1;rw [List.mem_singleton] at hy;omega
theorem i9 {bad : Nat → List Int → Bool} {ord : List Int} {n : Nat} (hp : ff ord n = true) : ∀ k, k ≤ n → (cd bad ord k).Nodup
 | 0, _ => List.nodup_nil
 | k + 1, hk => by
  rw [cd];split
  ·exact i9 hp k (by omega)
  ·refine List.nodup_append.2 ⟨i9 hp k (by omega), by simp, fun x hx y hy he => ?_⟩;obtain ⟨i, hi, hx⟩ := er k hx;rw [List.mem_singleton] at hy;exact (js hp).2.2 i k hi (by omega) (by rw [← hx, he, hy])
section
variable {N : Net}
theorem O2 {ids : List Int} (hs : Sym N.ends) (hl : ids.length = N.ends.length) (hd : ∀ v w, v < ids.length → w < ids.length → gi ids v = gi ids w → v = w) {k : Nat} (hk : cp (fun v w => b8 N v w) (rkN ids) (d7 N N.ends.length) k = []) :
 bc (cd (dm N) (mh ids ids.length) N.ends.length) = bc (jp (fun v w => b8 N v w) (rkN ids) (d7 N N.ends.length) k) := by
 have hp : ff (mh ids ids.length) N.ends.length = true := by rw [← hl]; exact Dw hd
 have h1 := Pn (N := N) (rk := rkN ids) hp fun i j hi hj => by
  obtain ⟨v, hv, he, hg⟩ := sf hd (by omega : i < ids.length);obtain ⟨w, hw, he2, hg2⟩ := sf hd (by omega : j < ids.length);rw [hg, hg2, Int.toNat_natCast, Int.toNat_natCast, he, he2]
 have h2 := yu hs (rk := rkN ids) (fun v w hv hw => r9 hd (by omega) (by omega)) hk;have hnat := (RndOk.all_k (nr := fun v w => b8 N v w) (rk := rkN ids) (O := d7 N N.ends.length) (ok := fun v => decide (v < N.ends.length) && !b8 N v v) (fun x => by rw [jl]; simp) (fun v w => D7 hs v w) (fun v hv => by simp at hv; exact hv.2) (fun v w hv hw => by simp at hv hw; exact r9 hd (by omega) (by omega)) k).nat;refine B1 (fk (i9 hp _ (Nat.le_refl _))) (fk (o0 (kn N _) k).1) fun x => ?_;rw [dw, dw];have h3 := fun v => h1.unique h2 v;constructor
 ·intro hx;obtain ⟨i, hi, he⟩ := er _ hx;have h4 := ((js hp).2.1 i hi).1;have h5 : ((x.toNat : Nat) : Int) = x := by omega
  rw [← h5] at hx ⊢;exact (h3 _).1 hx
 ·intro hx;have h4 := (hnat x (.inr hx)).1;have h5 : ((x.toNat : Nat) : Int) = x := by omega
  rw [← h5] at hx ⊢;exact (h3 _).2 hx
end
end
section
set_option maxHeartbeats 0
set_option maxRecDepth 8000
open Go Go.RowKit
def zBIp11 := PLift.up (And.intro an (And.intro aq (And.intro bh (And.intro a6 (And.intro am (And.intro @if_pos.{1} (And.intro @be (And.intro @ax (And.intro @ao (And.intro @ap @trivial))))))))))
theorem yk : type_of% zBIp11.down := zBIp11.down
theorem Ft (t : TypeId) (xs : List Int) (n : Int) (hl : xs.length ≤ 1000000) (ht : t = 3) : vm Tryz.prog 61 false [.sl true t 1 (xs.map iC)] [.c (.p (.int .i64 n))] (fun r => r = [.own false [.sl true 3 1 ((o8 xs n).map iC)]]) := by
 subst ht;refine Ee Tryz.func61 rfl (by rw [Tryz.ntmps61]; simp) fun w0 => ?_;rw [Tryz.ntmps61];have dX := yk;simp only [za, bm, Arg.av, List.length_cons, List.length_nil, Nat.reduceAdd];refine ab (dR fun K hK => ?_);(repeat refine eV ?_);refine aa (hK _ (wK [0, 1] ?_));clear hK K;refine ab (dR fun K hK => ?_);(repeat refine eV ?_);refine aa (hK _ (wK [0, 1, 5] ?_));clear hK K;refine ab (af ?_);refine ba (X := Nat) (fun k => k ≤ xs.length ∧ ∀ j, j < k → gi xs j < n) (fun k => [(5, .c (.p (.int .i64 k)))]) (fun k => []) (fun k => xs.length - k) 0 ⟨Nat.zero_le _, fun j hj => absurd hj (Nat.not_lt_zero j)⟩ (by first | rfl | (simp only [ac, pZ, simprocAttr, Int.natCast_zero] <;> rfl)) ?_;rintro k ⟨hk, hlt⟩;intro E hE;simp only [ac, pZ, simprocAttr] at hE;subst hE;have hcf : jc xs k xs.length = xs.drop k := Se rfl;have hdl : (xs.drop k).length = xs.length - k := List.length_drop;have htl : (xs.take k).length = k := by rw [List.length_take]; omega
 have htl2 : (xs.take k ++ [n]).length = k + 1 := by simp; omega
 by_cases h1 : k < xs.length
 ·have d1 : decide ((k : Int) < (xs.length : Int)) = true := decide_eq_true (by omega)
  by_cases h2 : gi xs k < n
  ·have d2 : decide (gi xs k < n) = true := decide_eq_true h2;refine ab ?_;have dX := And.intro dX (And.intro @d1 @d2);refine ab (dR fun K hK => ?_);(repeat refine eV ?_);have dK := And.intro @d1 @d2;refine aa (hK _ (a8 [0, 1, 5, 18] ?_));clear hK K;refine dI ?_ ?_<;>intro hb
   ·refine ae ?_;show DW _ _ _ _ _;refine af ?_;refine dR fun K hK => ?_;(repeat refine eV ?_);have dK := @bq;refine aa (hK _ ?_);clear hK K;show ∃ x, _ ∧ _ ∧ Weak _ _;refine ⟨k + 1, ?_, ?_, a7 [0, 1, 5]⟩
    ·exact ⟨h1, fun j hj => by by_cases h : j = k; exact h ▸ h2; exact hlt j (by omega)⟩
    ·omega
   ·cases hb
  ·have d2 : decide (gi xs k < n) = false := decide_eq_false h2;refine ab ?_;have dX := And.intro dX (And.intro @d1 @d2);refine ab (dR fun K hK => ?_);(repeat refine eV ?_);have dK := And.intro @d1 @d2;refine aa (hK _ (a8 [0, 1, 5, 18] ?_));clear hK K;refine dI ?_ ?_<;>intro hb
   ·cases hb
   ·refine ay ?_;refine bi [0, 1, 5] (by simp only [ac, pZ, simprocAttr]; exact rfl) ?_
    by_cases h3 : gi xs k = n
    ·have d3 : (gi xs k == n) = true := by simpa using h3
     have hp : o8 xs n = xs := by rw [z6 hk hlt (fun _ => h2), if_pos ⟨h1, h3⟩]
     refine ab ?_;have dX := And.intro dX (And.intro @d1 @d3);refine ab (dR fun K hK => ?_);(repeat refine eV ?_);have dK := And.intro @d1 @d3;refine aa (hK _ (a8 [0, 1, 5, 32] ?_));clear hK K;refine dI ?_ ?_<;>intro hb
     ·refine ab (dR fun K hK => ?_);(repeat refine eV ?_);refine aa (hK _ (wK [4] ?_));clear hK K;exact aj (al Tryz.results61 (.one (.own _ _ _ _ rfl rfl (own1 (bd _ _)))) (by decide) (by rw [hp]))
     ·cases hb
    ·have d3 : (gi xs k == n) = false := by simpa using h3
     have hp : o8 xs n = xs.take k ++ [n] ++ xs.drop k := by rw [z6 hk hlt (fun _ => h2), if_neg fun h => h3 h.2]; simp
     refine ab ?_;have dX := And.intro dX (And.intro @d1 @d3);refine ab (dR fun K hK => ?_);(repeat refine eV ?_);have dK := And.intro @d1 @d3;refine aa (hK _ (a8 [0, 1, 5, 32] ?_));clear hK K;refine dI ?_ ?_<;>intro hb
     ·cases hb
     ·refine ae ?_;show DW _ _ _ _ _;refine K7 0 [0, 1, 5] rfl rfl (by simp only [ac, pZ, simprocAttr, Qw, Mc, Fe, Fd, xm]; exact rfl) ?_;have dX := And.intro dX (And.intro @Int.toNat_natCast (And.intro @jz @Cg));refine ab (dR fun K hK => ?_);(repeat refine eV ?_);have dK := And.intro @jz @Cg;refine aa (hK _ (a8 [0, 1, 5, 6] ?_));clear hK K;refine ab (dR fun K hK => ?_);(repeat refine eV ?_);have dK := @f8;refine aa (hK _ (a8 [0, 5, 6] ?_));clear hK K;have dX := And.intro dX (And.intro @Int.toNat_natCast (And.intro @jz @hcf));refine ab (dR fun K hK => ?_);(repeat refine eV ?_);have dK := And.intro @jz (And.intro @hcf @Cs);refine aa (hK _ (a8 [4] ?_));clear hK K;exact aj (al Tryz.results61 (.one (.own _ _ _ _ rfl rfl (own1 (bd _ _)))) (by decide) (by rw [hp]))
 ·have d1 : decide ((k : Int) < (xs.length : Int)) = false := decide_eq_false (by omega);have hp : o8 xs n = xs.take k ++ [n] ++ xs.drop k := by rw [z6 hk hlt (fun h => absurd h h1), if_neg fun h => h1 h.1]; simp
  refine ab ?_;have dX := And.intro dX (@d1);refine ab (dR fun K hK => ?_);(repeat refine eV ?_);have dK := @d1;refine aa (hK _ (a8 [0, 1, 5, 18] ?_));clear hK K;refine dI ?_ ?_<;>intro hb
  ·cases hb
  ·refine ay ?_;refine bi [0, 1, 5] (by simp only [ac, pZ, simprocAttr]; exact rfl) ?_;refine ab ?_;have dX := And.intro dX (@d1);refine ab (dR fun K hK => ?_);(repeat refine eV ?_);have dK := @d1;refine aa (hK _ (a8 [0, 1, 5, 32] ?_));clear hK K;refine dI ?_ ?_<;>intro hb
   ·cases hb
   ·refine ae ?_;show DW _ _ _ _ _;refine K7 0 [0, 1, 5] rfl rfl (by simp only [ac, pZ, simprocAttr, Qw, Mc, Fe, Fd, xm]; exact rfl) ?_;have dX := And.intro dX (And.intro @Int.toNat_natCast (And.intro @jz @Cg));refine ab (dR fun K hK => ?_);(repeat refine eV ?_);have dK := And.intro @jz @Cg;refine aa (hK _ (a8 [0, 1, 5, 6] ?_));clear hK K;refine ab (dR fun K hK => ?_);(repeat refine eV ?_);have dK := @f8;refine aa (hK _ (a8 [0, 5, 6] ?_));clear hK K;have dX := And.intro dX (And.intro @Int.toNat_natCast (And.intro @jz @hcf));refine ab (dR fun K hK => ?_);(repeat refine eV ?_);have dK := And.intro @jz (And.intro @hcf @Cs);refine aa (hK _ (a8 [4] ?_));clear hK K;exact aj (al Tryz.results61 (.one (.own _ _ _ _ rfl rfl (own1 (bd _ _)))) (by decide) (by rw [hp]))
theorem Kp (o : Bool) (t : TypeId) (xs : List Int) (lo hi : Int) (hl : xs.length ≤ 1000000) : DCalls Tryz.prog 163 [.c (.sl o t 1 (xs.map iC)), .c (.p (.int .i64 lo)), .c (.p (.int .i64 hi))] (fun r => r = [.c (.p (.bool (eg xs lo hi)))]) := by
 refine au Tryz.func163 rfl (by rw [Tryz.ntmps163]; simp) fun w0 => ?_;rw [Tryz.ntmps163];have dX := yk;simp only [ce, bm, Arg.av, bw, cm, ints, ends];refine ab (dR fun K hK => ?_);(repeat refine eV ?_);refine aa (hK _ (wK [0, 1, 2] ?_));clear hK K;refine ab ?_;refine ab (dR fun K hK => ?_);(repeat refine eV ?_);refine aa (hK _ (wK [0, 1, 2, 9, 10, 11] ?_));clear hK K;refine af ?_;refine ba (X := Nat) (fun k => k ≤ xs.length ∧ ql xs lo hi k) (fun k => [(11, .c (.p (.int .i64 k)))]) (fun k => []) (fun k => xs.length - k) 0 ⟨Nat.zero_le _, fun j hj => absurd hj (Nat.not_lt_zero j)⟩ (by first | rfl | (simp only [ac, pZ, simprocAttr, Int.natCast_zero] <;> rfl)) ?_;rintro k ⟨hk, hr⟩;intro E hE;simp only [ac, pZ, simprocAttr] at hE;subst hE;refine ab (dR fun K hK => ?_);(repeat refine eV ?_);refine aa (hK _ (wK [0, 1, 2, 9, 10, 11, 12] ?_));clear hK K;refine ab (dI (fun hb => ?_) (fun hb => ?_))
 ·have hk1 : k < xs.length := by simpa using hb
  refine ae ?_;show DW _ _ _ _ _;refine ab (af ?_);refine ab (dR fun K hK => ?_);(repeat refine eV ?_);refine aa (hK _ (wK [0, 1, 2, 7, 8, 9, 10, 11] ?_));clear hK K;refine ab (dR fun K hK => ?_);(repeat refine eV ?_);refine cL rfl ⟨rfl, _, rfl⟩ (by omega) (by first | exact Ye) (Wp (gi xs k) lo hi) ?_;rintro _ rfl;(repeat refine eV ?_);obtain h1 | h1 := Bool.eq_false_or_eq_true (inB (gi xs k) lo hi)
  ·by_cases h2 : 0 < k
   ·have d2 : decide ((k : Int) > 0) = true := decide_eq_true (by omega);have hkc : (k : Int) - 1 = ((k - 1 : Nat) : Int) := by omega
    by_cases h3 : gi xs (k - 1) < gi xs k
    ·have d3 : decide (gi xs (k - 1) ≥ gi xs k) = false := decide_eq_false (by omega);have dX := And.intro dX (And.intro @h1 (And.intro @d2 (And.intro @hkc (And.intro @d3 @Int.toNat_natCast))));(repeat refine eV ?_);have dK := And.intro @h1 (And.intro @d2 (And.intro @hkc @d3));refine aa (hK _ (a8 [0, 1, 2, 9, 10, 11, 33] ?_));clear hK K;refine dI ?_ ?_<;>intro hb
     ·cases hb
     ·refine ae ?_;show DW _ _ _ _ _;refine dR fun K hK => ?_;(repeat refine eV ?_);have dK := @bq;refine aa (hK _ ?_);clear hK K;show ∃ x, _ ∧ _ ∧ Weak _ _;refine ⟨k + 1, ?_, ?_, a7 [0, 1, 2, 9, 10, 11]⟩
      ·exact ⟨hk1, fun j hj => by by_cases h : j = k; exact h ▸ ⟨h1, fun _ => h3⟩; exact hr j (by omega)⟩
      ·omega
    ·have d3 : decide (gi xs (k - 1) ≥ gi xs k) = true := decide_eq_true (by omega)
     have hno : eg xs lo hi = false := by
      cases h : eg xs lo hi with
      | false => rfl
      | true => exact absurd ((jj.1 h k hk1).2 h2) h3
     have dX := And.intro dX (And.intro @h1 (And.intro @d2 (And.intro @hkc (And.intro @d3 @Int.toNat_natCast))));(repeat refine eV ?_);have dK := And.intro @h1 (And.intro @d2 (And.intro @hkc @d3));refine aa (hK _ (a8 [0, 1, 2, 9, 10, 11, 33] ?_));clear hK K;refine dI ?_ ?_<;>intro hb
     ·refine ab (dR fun K hK => ?_);(repeat refine eV ?_);refine aa (hK _ (wK [6] ?_));clear hK K;exact aj (al Tryz.results163 (.one (.plain _ _ rfl)) (by decide) (by rw [hno]))
     ·cases hb
   ·have d2 : decide ((k : Int) > 0) = false := decide_eq_false (by omega);have dX := And.intro dX (And.intro @h1 @d2);(repeat refine eV ?_);have dK := And.intro @h1 @d2;refine aa (hK _ (a8 [0, 1, 2, 9, 10, 11, 33] ?_));clear hK K;refine dI ?_ ?_<;>intro hb
    ·cases hb
    ·refine ae ?_;show DW _ _ _ _ _;refine dR fun K hK => ?_;(repeat refine eV ?_);have dK := @bq;refine aa (hK _ ?_);clear hK K;show ∃ x, _ ∧ _ ∧ Weak _ _;refine ⟨k + 1, ?_, ?_, a7 [0, 1, 2, 9, 10, 11]⟩
     ·exact ⟨hk1, fun j hj => by by_cases h : j = k; exact h ▸ ⟨h1, fun h4 => absurd h4 (h ▸ h2)⟩; exact hr j (by omega)⟩
     ·omega
  ·have hno : eg xs lo hi = false := by
    cases h : eg xs lo hi with
    | false => rfl
    | true => have := (jj.1 h k hk1).1; rw [h1] at this; cases this
   have dX := And.intro dX (@h1);(repeat refine eV ?_);have dK := @h1;refine aa (hK _ (a8 [0, 1, 2, 9, 10, 11, 33] ?_));clear hK K;refine dI ?_ ?_<;>intro hb
   ·refine ab (dR fun K hK => ?_);(repeat refine eV ?_);refine aa (hK _ (wK [6] ?_));clear hK K;exact aj (al Tryz.results163 (.one (.plain _ _ rfl)) (by decide) (by rw [hno]))
   ·cases hb
 ·have hk2 : k = xs.length := by
   have : ¬ k < xs.length := by simpa using hb
   omega
  have hyes : eg xs lo hi = true := jj.2 (hk2 ▸ hr);refine ay ?_;refine bi [] (by simp only [ac, pZ, simprocAttr]; exact rfl) ?_;refine ab (dR fun K hK => ?_);(repeat refine eV ?_);refine aa (hK _ (wK [6] ?_));clear hK K;exact aj (al Tryz.results163 (.one (.plain _ _ rfl)) (by decide) (by rw [hyes]))
theorem Q6 (N : Net) (v : Nat) (u : Int) : dr (ik N v (gl N.ends v).length) u = b8 N v u := by
 rw [xt, Bool.eq_iff_iff, em, dr, List.contains_iff_mem, List.mem_map];constructor
 ·rintro ⟨e, he, rfl⟩;obtain ⟨j, hj, rfl⟩ := List.mem_iff_getElem.1 he;exact ⟨j, hj, by rw [jv hj]⟩
 ·rintro ⟨j, hj, rfl⟩;exact ⟨_, List.getElem_mem hj, by rw [jv hj]⟩
theorem D1 {N : Net} {v j : Nat} {s : List Int} (hj : j < (gl N.ends v).length) (h : (gp (gl N.ends v) j).1 ∈ s) : dq N v s = true := gh.2 ⟨_, h, em.2 ⟨j, hj, rfl⟩⟩
theorem Ke {N : Net} {v : Nat} {s : List Int} (h : ∀ j, j < (gl N.ends v).length → (gp (gl N.ends v) j).1 ∉ s) : dq N v s = false := by
 cases hn : dq N v s with
 | false => rfl
 | true =>
  obtain ⟨x, hx, hj⟩ := gh.1 hn;obtain ⟨j, hj2, he⟩ := em.1 hj;exact absurd (he ▸ hx) (h j hj2)
theorem Ad (f : NF) (N : Net) (v : Nat) (hv : v < N.ends.length) (hd : (gl N.ends v).length ≤ 262144) : DCalls Tryz.prog 58 [.agg (bw f N), .c (.p (.int .i64 v))] (fun r => r = [.c (.p (.bool (b8 N v v)))]) := by
 have hj := Q6 N v v;refine au Tryz.func58 rfl (by rw [Tryz.ntmps58]; simp) fun w0 => ?_;rw [Tryz.ntmps58];have dX := yk;simp only [ce, bm, Arg.av, bw, cm, ints, ends];refine ab (dR fun K hK => ?_);(repeat refine eV ?_);refine aa (hK _ (wK [1, 2] ?_));clear hK K;refine ab (dR fun K hK => ?_);(repeat refine eV ?_);refine cL rfl ⟨rfl, _, rfl⟩ (by omega) (by first | exact y5 | exact ms) (qt ⟨false, f.t1, f.o2, f.t2, false, f.t3, false, f.t4⟩ N v hv hd) ?_;rintro _ rfl;(repeat refine eV ?_);refine cL rfl ⟨rfl, _, rfl⟩ (by omega) (by first | exact y5 | exact ms) (mt true 3 (ik N v (gl N.ends v).length) v) ?_;rintro _ rfl;(repeat refine eV ?_);refine aa (hK _ (wK [4] ?_));clear hK K;exact aj (al Tryz.results58 (.one (.plain _ _ rfl)) (by decide) (by rw [hj]))
theorem nw (f : NF) (N : Net) (v : Nat) (o : Bool) (t : TypeId) (s : List Int) (hv : v < N.ends.length) (hd : (gl N.ends v).length ≤ 262144) : DCalls Tryz.prog 62 [.agg (bw f N), .c (.p (.int .i64 v)), .c (.sl o t 1 (s.map iC))] (fun r => r = [.c (.p (.bool (!dq N v s)))]) := by
 obtain ⟨L, hL⟩ : ∃ L, L = ik N v (gl N.ends v).length := ⟨_, rfl⟩;have hLl : L.length = (gl N.ends v).length := by rw [hL, xt]; simp
 have hLi : ∀ j, j < (gl N.ends v).length → gi L j = (gp (gl N.ends v) j).1 := fun j hj => by rw [hL]; exact H6 rfl hj
 refine au Tryz.func62 rfl (by rw [Tryz.ntmps62]; simp) fun w0 => ?_;rw [Tryz.ntmps62];have dX := yk;simp only [ce, bm, Arg.av, bw, cm, ints, ends];refine ab (dR fun K hK => ?_);(repeat refine eV ?_);refine aa (hK _ (wK [1, 2, 3] ?_));clear hK K;refine ab ?_;have dX := And.intro dX ((Eq.symm hL));refine ab (dR fun K hK => ?_);(repeat refine eV ?_);have dX := And.intro dX ((Eq.symm hL));refine cL rfl ⟨rfl, _, rfl⟩ (by omega) (by first | exact y5) (qt ⟨false, f.t1, f.o2, f.t2, false, f.t3, false, f.t4⟩ N v hv hd) ?_;rintro _ rfl;(repeat refine eV ?_);have dK := (Eq.symm hL);refine aa (hK _ (a8 [2, 11, 12, 13] ?_));clear hK K;refine af ?_;refine ba (X := Nat) (fun k => k ≤ L.length ∧ ∀ j, j < k → gi L j ∉ s) (fun k => [(13, .c (.p (.int .i64 k)))]) (fun k => []) (fun k => L.length - k) 0 ⟨Nat.zero_le _, fun j hj => absurd hj (Nat.not_lt_zero j)⟩ (by first | rfl | (simp only [ac, pZ, simprocAttr, Int.natCast_zero, ← hL] <;> rfl)) ?_;rintro k ⟨hk, hr⟩;intro E hE;simp only [ac, pZ, simprocAttr] at hE;subst hE;refine ab (dR fun K hK => ?_);(repeat refine eV ?_);refine aa (hK _ (wK [2, 11, 12, 13, 14] ?_));clear hK K;refine ab (dI (fun hb => ?_) (fun hb => ?_))
 ·have hk1 : k < L.length := by simpa using hb
  refine ae ?_;show DW _ _ _ _ _;refine ab (af ?_);refine ab (dR fun K hK => ?_);(repeat refine eV ?_);refine aa (hK _ (wK [2, 8, 11, 12, 13] ?_));clear hK K;refine ab (dR fun K hK => ?_);(repeat refine eV ?_);refine cL rfl ⟨rfl, _, rfl⟩ (by omega) (by first | exact ms) (mt o t s (gi L k)) ?_;rintro _ rfl;(repeat refine eV ?_);refine aa (hK _ (wK [2, 11, 12, 13, 19] ?_));clear hK K;refine dI ?_ ?_<;>intro hb
  ·have hno : dq N v s = true := D1 (j := k) (by omega) (by rw [← hLi k (by omega)]; simpa [dr] using hb);refine ab (dR fun K hK => ?_);(repeat refine eV ?_);refine aa (hK _ (wK [6] ?_));clear hK K;exact aj (al Tryz.results62 (.one (.plain _ _ rfl)) (by decide) (by rw [hno]; rfl))
  ·refine ae ?_;show DW _ _ _ _ _;refine dR fun K hK => ?_;(repeat refine eV ?_);have dK := @bq;refine aa (hK _ ?_);clear hK K;show ∃ x, _ ∧ _ ∧ Weak _ _;refine ⟨k + 1, ?_, ?_, a7 [2, 11, 12, 13]⟩
   ·exact ⟨hk1, fun j hj => by by_cases h : j = k; (rw [h]; simpa [dr] using hb); exact hr j (by omega)⟩
   ·omega
 ·have hk2 : k = L.length := by
   have : ¬ k < L.length := by simpa using hb
   omega
  have hno : dq N v s = false := Ke fun j hj => by rw [← hLi j hj]; exact hr j (by omega)
  refine ay ?_;refine bi [] (by simp only [ac, pZ, simprocAttr]; exact rfl) ?_;refine ab (dR fun K hK => ?_);(repeat refine eV ?_);refine aa (hK _ (wK [6] ?_));clear hK K;exact aj (al Tryz.results62 (.one (.plain _ _ rfl)) (by decide) (by rw [hno]; rfl))
def pz (N : Net) (s : List Int) : Bool := s.all fun x => !dq N x.toNat s
def sy (N : Net) (s : List Int) : Bool := ((List.range N.ends.length).all fun v => dr s v || b8 N v v || dq N v s) && pz N s
def Aj (N : Net) (s : List Int) : Prop := ∀ j, j < s.length → ∃ w : Nat, gi s j = w ∧ w < N.ends.length
theorem uf {N : Net} {s : List Int} (h : eg s 0 ((N.ends.length : Int) - 1) = true) : Aj N s := fun j hj => by
 have h1 := ec.1 (jj.1 h j hj).1;exact ⟨(gi s j).toNat, by omega, by omega⟩
theorem Fv {N : Net} {s : List Int} : pz N s = true ↔ ∀ j, j < s.length → dq N (gi s j).toNat s = false := by
 unfold pz;rw [List.all_eq_true];constructor
 ·intro h j hj;have := h _ (List.getElem_mem hj);rw [bo hj]; simpa using this
 ·intro h x hx;obtain ⟨j, hj, rfl⟩ := List.mem_iff_getElem.1 hx;rw [← bo hj]; simpa using h j hj
theorem zn (f : NF) (N : Net) (o : Bool) (t : TypeId) (s : List Int) (hd : ∀ v, (gl N.ends v).length ≤ 262144) (hs : Aj N s) (hl : s.length ≤ 1000000) : DCalls Tryz.prog 88 [.agg (bw f N), .c (.sl o t 1 (s.map iC))] (fun r => r = [.c (.p (.bool (pz N s)))]) := by
 refine au Tryz.func88 rfl (by rw [Tryz.ntmps88]; simp) fun w0 => ?_;rw [Tryz.ntmps88];have dX := yk;simp only [ce, bm, Arg.av, bw, cm, ints, ends];refine ab (dR fun K hK => ?_);(repeat refine eV ?_);refine aa (hK _ (wK [1, 2] ?_));clear hK K;refine ab ?_;refine ab (dR fun K hK => ?_);(repeat refine eV ?_);refine aa (hK _ (wK [1, 2, 7, 8, 9] ?_));clear hK K;refine af ?_;refine ba (X := Nat) (fun k => k ≤ s.length ∧ ∀ j, j < k → dq N (gi s j).toNat s = false) (fun k => [(9, .c (.p (.int .i64 k)))]) (fun k => []) (fun k => s.length - k) 0 ⟨Nat.zero_le _, fun j hj => absurd hj (Nat.not_lt_zero j)⟩ (by first | rfl | (simp only [ac, pZ, simprocAttr, Int.natCast_zero] <;> rfl)) ?_;rintro k ⟨hk, hr⟩;intro E hE;simp only [ac, pZ, simprocAttr] at hE;subst hE;refine ab (dR fun K hK => ?_);(repeat refine eV ?_);refine aa (hK _ (wK [1, 2, 7, 8, 9, 10] ?_));clear hK K;refine ab (dI (fun hb => ?_) (fun hb => ?_))
 ·have hk1 : k < s.length := by simpa using hb
  obtain ⟨v, hv, hvl⟩ := hs k hk1;refine ae ?_;show DW _ _ _ _ _;refine ab (af ?_);have dX := And.intro dX (@hv);refine ab (dR fun K hK => ?_);(repeat refine eV ?_);have dK := @hv;refine aa (hK _ (a8 [1, 2, 6, 7, 8, 9] ?_));clear hK K;refine ab (dR fun K hK => ?_);(repeat refine eV ?_);refine cL rfl ⟨rfl, _, rfl⟩ (by omega) (by first | exact tq) (nw ⟨false, f.t1, f.o2, f.t2, false, f.t3, false, f.t4⟩ N v o t s hvl (hd v)) ?_;rintro _ rfl;(repeat refine eV ?_);have dK := @Bool.not_not;refine aa (hK _ (a8 [1, 2, 7, 8, 9, 17] ?_));clear hK K;refine dI ?_ ?_<;>intro hb
  ·have hno : pz N s = false := by
    cases h : pz N s with
    | false => rfl
    | true => have h2 := Fv.1 h k hk1; rw [hv, Int.toNat_natCast] at h2; rw [h2] at hb; cases hb
   refine ab (dR fun K hK => ?_);(repeat refine eV ?_);refine aa (hK _ (wK [4] ?_));clear hK K;exact aj (al Tryz.results88 (.one (.plain _ _ rfl)) (by decide) (by rw [hno]))
  ·refine ae ?_;show DW _ _ _ _ _;refine dR fun K hK => ?_;(repeat refine eV ?_);have dK := @bq;refine aa (hK _ ?_);clear hK K;show ∃ x, _ ∧ _ ∧ Weak _ _;refine ⟨k + 1, ?_, ?_, a7 [1, 2, 7, 8, 9]⟩
   ·exact ⟨hk1, fun j hj => by by_cases h : j = k; (rw [h, hv, Int.toNat_natCast]; simpa using hb); exact hr j (by omega)⟩
   ·omega
 ·have hk2 : k = s.length := by
   have : ¬ k < s.length := by simpa using hb
   omega
  have hyes : pz N s = true := Fv.2 (hk2 ▸ hr);refine ay ?_;refine bi [] (by simp only [ac, pZ, simprocAttr]; exact rfl) ?_;refine ab (dR fun K hK => ?_);(repeat refine eV ?_);refine aa (hK _ (wK [4] ?_));clear hK K;exact aj (al Tryz.results88 (.one (.plain _ _ rfl)) (by decide) (by rw [hyes]))
theorem Tv (f : NF) (N : Net) (o : Bool) (t : TypeId) (s : List Int) (hl : s.length ≤ 1000000) (hn : N.ends.length ≤ 1000000) : DCalls Tryz.prog 87 [.agg (bw f N), .c (.sl o t 1 (s.map iC))] (fun r => r = [.c (.p (.bool (bn N && eg s 0 ((N.ends.length : Int) - 1))))]) := by
 refine au Tryz.func87 rfl (by rw [Tryz.ntmps87]; simp) fun w0 => ?_;rw [Tryz.ntmps87];have dX := yk;simp only [ce, bm, Arg.av, bw, cm, ints, ends];refine ab (dR fun K hK => ?_);(repeat refine eV ?_);refine aa (hK _ (wK [1, 2] ?_));clear hK K;refine ab (dR fun K hK => ?_);(repeat refine eV ?_);refine cL rfl ⟨rfl, _, rfl⟩ (by omega) (by first | exact qw | exact Rl) (l6 ⟨false, f.t1, f.o2, f.t2, false, f.t3, false, f.t4⟩ N) ?_;rintro _ rfl;(repeat refine eV ?_);obtain h1 | h1 := Bool.eq_false_or_eq_true (bn N)
 ·have dX := And.intro dX (@h1);(repeat refine eV ?_);have dX := And.intro dX (@h1);refine cgF rfl rfl ⟨rfl, _, rfl⟩ (by omega) (by first | exact qw | exact Rl) (Kp o t s 0 ((N.ends.length : Int) - 1) hl) ?_;rintro _ rfl;(repeat refine eV ?_);have dX := And.intro dX (@h1);(repeat refine eV ?_);have dK := @h1;refine aa (hK _ (a8 [4] ?_));clear hK K;exact aj (al Tryz.results87 (.one (.plain _ _ rfl)) (by decide) (by rw [h1]; rfl))
 ·have dX := And.intro dX (@h1);(repeat refine eV ?_);have dX := And.intro dX (@h1);refine csF ?_;(repeat refine eV ?_);have dX := And.intro dX (@h1);(repeat refine eV ?_);have dK := @h1;refine aa (hK _ (a8 [4] ?_));clear hK K;exact aj (al Tryz.results87 (.one (.plain _ _ rfl)) (by decide) (by rw [h1]; rfl))
end
section
set_option maxHeartbeats 0
set_option maxRecDepth 8000
open Go Go.RowKit
theorem Fw (o : Bool) (t : TypeId) (xs : List Int) (lo hi : Int) : DCalls Tryz.prog 152 [.c (.sl o t 1 (xs.map iC)), .c (.p (.int .i64 lo)), .c (.p (.int .i64 hi))] (fun r => r = [.c (.p (.bool (eg xs lo hi)))]) := iv fun w vs h1 h2 => by
 obtain ⟨u, v, t2, rfl, g1, g2, g3⟩ := Ni h1 h2;rw [yn g2, yn g3];exact (q8 u xs lo hi w (lj g1)).mono fun _ _ h => RetQ.v h
theorem bt (xs : List Int) (x : Int) : decide (0 ≤ zr xs x) = dr xs x := by
 rw [Bool.eq_iff_iff, decide_eq_true_eq, B2, fb]
theorem M6 {N : Net} {k j : Nat} (hp : edP N k j = true) : ∀ {i : Nat}, j < i → ((k : Int), (j : Int), (gp (gl N.ends k) j).1, (gp (gl N.ends k) j).2) ∈ edN N k i
 | 0, h => absurd h (Nat.not_lt_zero _)
 | i + 1, h => by
  rw [edN]
  by_cases h1 : j = i
  ·subst h1; rw [if_pos hp]; simp
  ·have := M6 hp (show j < i by omega);split
   ·exact List.mem_append_left _ this
   ·exact this
theorem Gb {N : Net} {k j : Nat} (hp : edP N k j = true) (hj : j < (gl N.ends k).length) : ∀ {n : Nat}, k < n → ((k : Int), (j : Int), (gp (gl N.ends k) j).1, (gp (gl N.ends k) j).2) ∈ edL N n
 | 0, h => absurd h (Nat.not_lt_zero _)
 | n + 1, h => by
  rw [edL]
  by_cases h1 : k = n
  ·subst h1; exact List.mem_append_right _ (M6 hp hj)
  ·exact List.mem_append_left _ (Gb hp hj (by omega))
theorem M5 {N : Net} (hs : Sym N.ends) {v j : Nat} (hv : v < N.ends.length) (hj : j < (gl N.ends v).length) : ∃ e ∈ edL N N.ends.length, (e.1 = (v : Int) ∧ e.2.2.1 = (gp (gl N.ends v) j).1) ∨ (e.2.2.1 = (v : Int) ∧ e.1 = (gp (gl N.ends v) j).1) := by
 obtain ⟨h1, h2, h3, h4, h5⟩ := t6 hs hv hj;obtain ⟨-, -, -, -, h6⟩ := t6 hs h1 h2;rw [h3, h4] at h6
 by_cases hp : edP N v j = true
 ·exact ⟨_, Gb hp hj hv, .inl ⟨rfl, rfl⟩⟩
 ·have hq : edP N (nd N v j) (bk N v j) = true := by
   unfold edP at hp ⊢;rw [h6];rw [h5] at hp;simp only [Bool.or_eq_true, Bool.and_eq_true, decide_eq_true_eq, beq_iff_eq] at hp ⊢;omega
  refine ⟨_, Gb hq h2 h1, .inr ⟨by rw [h6], by rw [h5]⟩⟩
theorem Ku {N : Net} (hs : Sym N.ends) {s : List Int} (hn : Aj N s) : (pn (edL N N.ends.length).length fun j => dr s (gq (edL N N.ends.length) j).1 && dr s (gq (edL N N.ends.length) j).2.2.1) = !pz N s := by
 rw [Bool.eq_iff_iff, me, Bool.not_eq_true', ← Bool.not_eq_true, Fv];constructor
 ·rintro ⟨j, hj, h⟩ h2;rw [Bool.and_eq_true, fb, fb] at h;obtain ⟨k, i, hk, hi, -, he⟩ := xb (List.getElem_mem hj);rw [← zc hj] at he;rw [he] at h;obtain ⟨x, hx, hxe⟩ := List.mem_iff_getElem.1 h.1;have h3 := h2 x hx;rw [bo hx, hxe] at h3;have h4 : dq N k s = true := D1 hi h.2;have h5 : ((k : Int).toNat) = k := Int.toNat_natCast k;dsimp only at h3;rw [h5, h4] at h3; cases h3
 ·intro h
  have h2 : ∃ j, j < s.length ∧ dq N (gi s j).toNat s = true := Classical.byContradiction fun h3 => h fun j hj => by
   cases hb : dq N (gi s j).toNat s with
   | false => rfl
   | true => exact absurd ⟨j, hj, hb⟩ h3
  obtain ⟨j, hj, hb⟩ := h2;obtain ⟨v, hv, hvl⟩ := hn j hj;rw [hv, Int.toNat_natCast] at hb;obtain ⟨x, hx, hjn⟩ := gh.1 hb;obtain ⟨i, hi, rfl⟩ := em.1 hjn;have hvs : (v : Int) ∈ s := by rw [← hv, bo hj]; exact List.getElem_mem hj
  obtain ⟨e, he, h6⟩ := M5 hs hvl hi;obtain ⟨q, hq, rfl⟩ := List.mem_iff_getElem.1 he;refine ⟨q, hq, ?_⟩;rw [zc hq, Bool.and_eq_true, fb, fb]
  rcases h6 with ⟨h7, h8⟩ | ⟨h7, h8⟩ <;> rw [h7, h8]
  ·exact ⟨hvs, hx⟩
  ·exact ⟨hx, hvs⟩
def zBIp21 := PLift.up (And.intro an (And.intro aq (And.intro bh (And.intro a6 (And.intro am (And.intro @if_pos.{1} (And.intro @be (And.intro @ax (And.intro @ao (And.intro @ap (And.intro cz (And.intro c9 @trivial))))))))))))
theorem yj : type_of% zBIp21.down := zBIp21.down
theorem y9 (f : NF) (N : Net) (o : Bool) (t : TypeId) (s : List Int) (hi : N.ids.length ≤ 2097152) (hn : N.ends.length ≤ 1000000) : DCalls Tryz.prog 65 [.agg (bw f N), .c (.sl o t 1 (s.map iC))] (fun r => r = [.c (.p (.bool (bn N && eg s 0 ((N.ends.length : Int) - 1))))]) := by
 refine au Tryz.func65 rfl (by rw [Tryz.ntmps65]; simp) fun w0 => ?_;rw [Tryz.ntmps65];have dX := yj;simp only [ce, bm, Arg.av, bw, cm, ints, ends];refine ab (dR fun K hK => ?_);(repeat refine eV ?_);refine aa (hK _ (wK [1, 2] ?_));clear hK K;refine ab (dR fun K hK => ?_);(repeat refine eV ?_);refine cL rfl ⟨rfl, _, rfl⟩ (by omega) (by first | exact tr | exact Rm) (jo ⟨false, f.t1, f.o2, f.t2, false, f.t3, false, f.t4⟩ N hi) ?_;rintro _ rfl;(repeat refine eV ?_);obtain h1 | h1 := Bool.eq_false_or_eq_true (bn N)
 ·have dX := And.intro dX (@h1);(repeat refine eV ?_);have dX := And.intro dX (@h1);refine cgF rfl rfl ⟨rfl, _, rfl⟩ (by omega) (by first | exact tr | exact Rm) (Fw o t s 0 ((N.ends.length : Int) - 1)) ?_;rintro _ rfl;(repeat refine eV ?_);have dX := And.intro dX (@h1);(repeat refine eV ?_);have dK := @h1;refine aa (hK _ (a8 [4] ?_));clear hK K;exact aj (al Tryz.results65 (.one (.plain _ _ rfl)) (by decide) (by rw [h1]; rfl))
 ·have dX := And.intro dX (@h1);(repeat refine eV ?_);have dX := And.intro dX (@h1);refine csF ?_;(repeat refine eV ?_);have dX := And.intro dX (@h1);(repeat refine eV ?_);have dK := @h1;refine aa (hK _ (a8 [4] ?_));clear hK K;exact aj (al Tryz.results65 (.one (.plain _ _ rfl)) (by decide) (by rw [h1]; rfl))
theorem ya (o : Bool) (t : TypeId) (s : List Int) (e : Int × Int × Int × Int) (hl : s.length ≤ 1000000) : DCalls Tryz.prog 156 [.agg (qC e), .rp [.sl o t 1 (s.map iC)]] (fun r => r = [.c (.p (.bool (dr s e.1 && dr s e.2.2.1)))]) := by
 obtain ⟨e1, e2, e3, e4⟩ := e;refine au Tryz.func156 rfl (by rw [Tryz.ntmps156]; simp) fun w0 => ?_;rw [Tryz.ntmps156];have dX := yj;simp only [ce, bm, Arg.av, bw, cm, ints, ends, qC];refine ab (dR fun K hK => ?_);(repeat refine eV ?_);refine aa (hK _ (wK [1, 2] ?_));clear hK K;refine ab (dR fun K hK => ?_)
 repeat (apply bj; (focus exact rfl); (focus (simp (disch := first | omega | (intros; contradiction)) only [ac, az, pZ, simprocAttr, an, aq, bh, a6, am, if_pos, be, ax, ao, ap, cz, c9 , dt, bt]; exact rfl)))
 refine cu rfl ⟨rfl, _, rfl⟩ (by omega) (by first | exact dt) (by simp (disch := first | omega | (intros; contradiction)) only [ac, az, pZ, simprocAttr, an, aq, bh, a6, am, if_pos, be, ax, ao, ap, cz, c9 , dt, bt] <;> exact rfl) (jg o t s e1 hl) ?_;rintro _ rfl
 repeat (apply bj; (focus exact rfl); (focus (simp (disch := first | omega | (intros; contradiction)) only [ac, az, pZ, simprocAttr, an, aq, bh, a6, am, if_pos, be, ax, ao, ap, cz, c9 , dt, bt]; exact rfl)))
 obtain h1 | h1 := Bool.eq_false_or_eq_true (dr s e1)
 ·have dX := And.intro dX (And.intro @h1 @bt);(repeat refine eV ?_);refine cgF rfl rfl ⟨rfl, _, rfl⟩ (by omega) (by first | exact dt) (jg o t s e3 hl) ?_;rintro _ rfl
  repeat (apply bj; (focus exact rfl); (focus (simp (disch := first | omega | (intros; contradiction)) only [ac, az, pZ, simprocAttr, an, aq, bh, a6, am, if_pos, be, ax, ao, ap, cz, c9 , dt, h1, bt]; exact rfl)))
  have dX := And.intro dX (And.intro @h1 @bt);(repeat refine eV ?_);have dK := And.intro @h1 @bt;refine aa (hK _ (a8 [3] ?_));clear hK K;exact aj (al Tryz.results156 (.one (.plain _ _ rfl)) (by decide) (by rw [h1]; rfl))
 ·have dX := And.intro dX (And.intro @h1 @bt);(repeat refine eV ?_);have dX := And.intro dX (And.intro @h1 @bt);refine csF ?_;(repeat refine eV ?_);have dX := And.intro dX (And.intro @h1 @bt);(repeat refine eV ?_);have dK := And.intro @h1 @bt;refine aa (hK _ (a8 [3] ?_));clear hK K;exact aj (al Tryz.results156 (.one (.plain _ _ rfl)) (by decide) (by rw [h1]; rfl))
theorem oa (f : NF) (N : Net) (o : Bool) (t : TypeId) (s : List Int) (hg : bn N = true) (hn : Aj N s) (hl : s.length ≤ 1000000) : DCalls Tryz.prog 69 [.agg (bw f N), .c (.sl o t 1 (s.map iC))] (fun r => r = [.c (.p (.bool (pz N s)))]) := by
 obtain ⟨hs, hN, hids, hdg⟩ := dz hg;have hel := sq N hdg N.ends.length;have hee := Ku hs hn;have hclo : ∀ j, j < (edL N N.ends.length).length → DCalls Tryz.prog 156 ([.agg (qC (gq (edL N N.ends.length) j))] ++ [[C.sl false t 1 (s.map iC)]].map .rp) (fun r => r = [.c (.p (.bool (dr s (gq (edL N N.ends.length) j).1 && dr s (gq (edL N N.ends.length) j).2.2.1)))]) := fun j _ => ya false t s _ hl;refine au Tryz.func69 rfl (by rw [Tryz.ntmps69]; simp) fun w0 => ?_;rw [Tryz.ntmps69];have dX := yj;simp only [ce, bm, Arg.av, bw, cm, ints, ends];refine ab (dR fun K hK => ?_);(repeat refine eV ?_);refine aa (hK _ (wK [2, 3] ?_));clear hK K;refine ab (dR fun K hK => ?_)
 repeat (apply bj; (focus exact rfl); (focus (simp (disch := first | omega | (intros; contradiction)) only [ac, az, pZ, simprocAttr, an, aq, bh, a6, am, if_pos, be, ax, ao, ap, cz, c9 , it, iu]; exact rfl)))
 refine cu rfl ⟨rfl, _, rfl⟩ (by omega) (by first | exact it | exact iu) (by simp (disch := first | omega | (intros; contradiction)) only [ac, az, pZ, simprocAttr, an, aq, bh, a6, am, if_pos, be, ax, ao, ap, cz, c9 , it, iu] <;> exact rfl) (F8 ⟨false, f.t1, f.o2, f.t2, false, f.t3, false, f.t4⟩ N (by omega) hdg) ?_;rintro _ rfl
 repeat (apply bj; (focus exact rfl); (focus (simp (disch := first | omega | (intros; contradiction)) only [ac, az, pZ, simprocAttr, an, aq, bh, a6, am, if_pos, be, ax, ao, ap, cz, c9 , it, iu]; exact rfl)))
 refine cu rfl ⟨rfl, _, rfl⟩ (by omega) (by first | exact it | exact iu) (by simp (disch := first | omega | (intros; contradiction)) only [ac, az, pZ, simprocAttr, an, aq, bh, a6, am, if_pos, be, ax, ao, ap, cz, c9 , it, iu] <;> exact rfl) (la true 78 (edL N N.ends.length) 156 _ _ (by omega) Wh hclo) ?_;rintro _ rfl
 repeat (apply bj; (focus exact rfl); (focus (simp (disch := first | omega | (intros; contradiction)) only [ac, az, pZ, simprocAttr, an, aq, bh, a6, am, if_pos, be, ax, ao, ap, cz, c9 , it, iu]; exact rfl)))
 refine aa (hK _ (wK [4] ?_));clear hK K;exact aj (al Tryz.results69 (.one (.plain _ _ rfl)) (by decide) (by rw [hee, Bool.not_not]))
theorem zu (f : NF) (N : Net) (o : Bool) (t : TypeId) (s : List Int) (hi : N.ids.length ≤ 2097152) (hn : N.ends.length ≤ 1000000) (hl : s.length ≤ 1000000) : DCalls Tryz.prog 17 [.agg (bw f N), .c (.sl o t 1 (s.map iC))] (fun r => r = [.c (.p (.bool (bn N && eg s 0 ((N.ends.length : Int) - 1) && pz N s))), .c (.p (.bool (bn N && eg s 0 ((N.ends.length : Int) - 1))))]) := by
 refine au Tryz.func17 rfl (by rw [Tryz.ntmps17]; simp) fun w0 => ?_;rw [Tryz.ntmps17];have dX := yj;simp only [ce, bm, Arg.av, bw, cm, ints, ends];refine ab (dR fun K hK => ?_);(repeat refine eV ?_);refine aa (hK _ (wK [1, 2] ?_));clear hK K;refine ab ?_;refine ab (dR fun K hK => ?_);(repeat refine eV ?_);refine cL rfl ⟨rfl, _, rfl⟩ (by omega) (by first | exact Vc) (y9 ⟨false, f.t1, f.o2, f.t2, false, f.t3, false, f.t4⟩ N o t s hi hn) ?_;rintro _ rfl;(repeat refine eV ?_);refine aa (hK _ (wK [1, 2, 9] ?_));clear hK K;refine dI ?_ ?_<;>intro hb
 ·have hb2 : (bn N && eg s 0 ((N.ends.length : Int) - 1)) = false := Eq.mp (Bool.not_eq_true' _) hb;refine ab (dR fun K hK => ?_);(repeat refine eV ?_);refine aa (hK _ (wK [4, 5] ?_));clear hK K;exact aj (al Tryz.results17 (.two (.plain _ _ rfl) (.plain _ _ rfl)) (by decide) (by rw [hb2]; rfl))
 ·have hb2 : (bn N && eg s 0 ((N.ends.length : Int) - 1)) = true := by simpa using hb
  have hb3 := Bool.and_eq_true_iff.1 hb2;refine ae ?_;show DW _ _ _ _ _;refine ab (dR fun K hK => ?_);(repeat refine eV ?_);refine cL rfl ⟨rfl, _, rfl⟩ (by omega) (by first | exact Vb) (oa ⟨false, f.t1, f.o2, f.t2, false, f.t3, false, f.t4⟩ N o t s hb3.1 (uf hb3.2) hl) ?_;rintro _ rfl;(repeat refine eV ?_);refine aa (hK _ (wK [4, 5] ?_));clear hK K;exact aj (al Tryz.results17 (.two (.plain _ _ rfl) (.plain _ _ rfl)) (by decide) (by rw [hb2]; rfl))
def Ir (N : Net) (s : List Int) (k : Nat) : Prop := ∀ v, v < k → (dr s v || b8 N v v || dq N v s) = true
theorem Id {N : Net} {s : List Int} (h : Ir N s N.ends.length) : sy N s = pz N s := by
 unfold sy;rw [List.all_eq_true.2 fun v hv => h v (List.mem_range.1 hv)]; rfl
theorem Mv {N : Net} {s : List Int} {v : Nat} (hv : v < N.ends.length) (h : (dr s v || b8 N v v || dq N v s) = false) : sy N s = false := by
 unfold sy
 cases hm : (List.range N.ends.length).all fun v => dr s v || b8 N v v || dq N v s with
 | false => rfl
 | true => have := List.all_eq_true.1 hm v (List.mem_range.2 hv); rw [h] at this; cases this
theorem ke {N : Net} {s : List Int} {k : Nat} (h : Ir N s k) (h1 : (dr s k || b8 N k k || dq N k s) = true) : Ir N s (k + 1) := fun v hv => by
 by_cases h2 : v = k
 ·exact h2 ▸ h1
 ·exact h v (by omega)
theorem fu (f : NF) (N : Net) (o : Bool) (t : TypeId) (s : List Int) (hi : N.ids.length ≤ 2097152) (hn : N.ends.length ≤ 1000000) (hl : s.length ≤ 1000000) : DCalls Tryz.prog 13 [.agg (bw f N), .c (.sl o t 1 (s.map iC))] (fun r => r = [.c (.p (.bool (bn N && eg s 0 ((N.ends.length : Int) - 1) && sy N s))), .c (.p (.bool (bn N && eg s 0 ((N.ends.length : Int) - 1))))]) := by
 refine au Tryz.func13 rfl (by rw [Tryz.ntmps13]; simp) fun w0 => ?_;rw [Tryz.ntmps13];have dX := yj;simp only [ce, bm, Arg.av, bw, cm, ints, ends];refine ab (dR fun K hK => ?_);(repeat refine eV ?_);refine aa (hK _ (wK [1, 2] ?_));clear hK K;refine ab ?_;refine ab (dR fun K hK => ?_);(repeat refine eV ?_);refine cL rfl ⟨rfl, _, rfl⟩ (by omega) (by first | exact Vc) (y9 ⟨false, f.t1, f.o2, f.t2, false, f.t3, false, f.t4⟩ N o t s hi hn) ?_;rintro _ rfl;(repeat refine eV ?_);refine aa (hK _ (wK [1, 2, 10] ?_));clear hK K;refine dI ?_ ?_<;>intro hb
 ·have hb2 : (bn N && eg s 0 ((N.ends.length : Int) - 1)) = false := Eq.mp (Bool.not_eq_true' _) hb;refine ab (dR fun K hK => ?_);(repeat refine eV ?_);refine aa (hK _ (wK [4, 5] ?_));clear hK K;exact aj (al Tryz.results13 (.two (.plain _ _ rfl) (.plain _ _ rfl)) (by decide) (by rw [hb2]; rfl))
 ·have hb2 : (bn N && eg s 0 ((N.ends.length : Int) - 1)) = true := by simpa using hb
  have hb3 := Bool.and_eq_true_iff.1 hb2;have hg := hb3.1;refine ae ?_;show DW _ _ _ _ _;refine ab ?_;refine ab (dR fun K hK => ?_);(repeat refine eV ?_);refine aa (hK _ (wK [1, 2, 13, 14] ?_));clear hK K;refine af ?_;refine ba (X := Nat) (fun k => k ≤ N.ends.length ∧ Ir N s k) (fun k => [(14, .c (.p (.int .i64 k)))]) (fun k => []) (fun k => N.ends.length - k) 0 ⟨Nat.zero_le _, fun j hj => absurd hj (Nat.not_lt_zero j)⟩ (by first | rfl | (simp only [ac, pZ, simprocAttr, Int.natCast_zero] <;> rfl)) ?_;rintro k ⟨hk, hr⟩;intro E hE;simp only [ac, pZ, simprocAttr] at hE;subst hE;refine ab (dR fun K hK => ?_);(repeat refine eV ?_);refine aa (hK _ (wK [1, 2, 13, 14, 15] ?_));clear hK K;refine ab (dI (fun hb => ?_) (fun hb => ?_))
  ·have hk1 : k < N.ends.length := by simpa using hb
   refine ae ?_;show DW _ _ _ _ _;refine ab (af ?_);refine ab (dR fun K hK => ?_);(repeat refine eV ?_);refine aa (hK _ (wK [1, 2, 6, 13, 14] ?_));clear hK K;refine ab (dR fun K hK => ?_)
   repeat (apply bj; (focus exact rfl); (focus (simp (disch := first | omega | (intros; contradiction)) only [ac, az, pZ, simprocAttr, an, aq, bh, a6, am, if_pos, be, ax, ao, ap, cz, c9 , dt, qv, ld, bt]; exact rfl)))
   refine cu rfl ⟨rfl, _, rfl⟩ (by omega) (by first | exact dt | exact qv | exact ld) (by simp (disch := first | omega | (intros; contradiction)) only [ac, az, pZ, simprocAttr, an, aq, bh, a6, am, if_pos, be, ax, ao, ap, cz, c9 , dt, qv, ld, bt] <;> exact rfl) (jg o t s k hl) ?_;rintro _ rfl
   repeat (apply bj; (focus exact rfl); (focus (simp (disch := first | omega | (intros; contradiction)) only [ac, az, pZ, simprocAttr, an, aq, bh, a6, am, if_pos, be, ax, ao, ap, cz, c9 , dt, qv, ld, bt]; exact rfl)))
   obtain h1 | h1 := Bool.eq_false_or_eq_true (dr s k)
   ·have dX := And.intro dX (And.intro @bt @h1);(repeat refine eV ?_);have dX := And.intro dX (And.intro @bt @h1);refine csF ?_;(repeat refine eV ?_);have dX := And.intro dX (And.intro @bt @h1);(repeat refine eV ?_);have dX := And.intro dX (And.intro @bt @h1);refine csF ?_;(repeat refine eV ?_);have dX := And.intro dX (And.intro @bt @h1);(repeat refine eV ?_);have dK := And.intro @bt @h1;refine aa (hK _ (a8 [1, 2, 13, 14, 34] ?_));clear hK K;refine dI ?_ ?_<;>intro hb
    ·cases hb
    ·refine ae ?_;show DW _ _ _ _ _;refine dR fun K hK => ?_;(repeat refine eV ?_);have dK := @bq;refine aa (hK _ ?_);clear hK K;show ∃ x, _ ∧ _ ∧ Weak _ _;refine ⟨k + 1, ?_, ?_, a7 [1, 2, 13, 14]⟩
     ·exact ⟨hk1, ke hr (by rw [h1]; rfl)⟩
     ·omega
   ·have dX := And.intro dX (And.intro @bt @h1);(repeat refine eV ?_);refine cgF rfl rfl ⟨rfl, _, rfl⟩ (by omega) (by first | exact dt | exact qv | exact ld) (ry ⟨false, f.t1, f.o2, f.t2, false, f.t3, false, f.t4⟩ N k k hg hk1) ?_;rintro _ rfl
    repeat (apply bj; (focus exact rfl); (focus (simp (disch := first | omega | (intros; contradiction)) only [ac, az, pZ, simprocAttr, an, aq, bh, a6, am, if_pos, be, ax, ao, ap, cz, c9 , dt, qv, ld, bt, h1]; exact rfl)))
    obtain h2 | h2 := Bool.eq_false_or_eq_true (b8 N k k)
    ·have dX := And.intro dX (And.intro @bt (And.intro @h1 @h2));(repeat refine eV ?_);have dX := And.intro dX (And.intro @bt (And.intro @h1 @h2));refine csF ?_;(repeat refine eV ?_);have dX := And.intro dX (And.intro @bt (And.intro @h1 @h2));(repeat refine eV ?_);have dK := And.intro @bt (And.intro @h1 @h2);refine aa (hK _ (a8 [1, 2, 13, 14, 34] ?_));clear hK K;refine dI ?_ ?_<;>intro hb
     ·cases hb
     ·refine ae ?_;show DW _ _ _ _ _;refine dR fun K hK => ?_;(repeat refine eV ?_);have dK := @bq;refine aa (hK _ ?_);clear hK K;show ∃ x, _ ∧ _ ∧ Weak _ _;refine ⟨k + 1, ?_, ?_, a7 [1, 2, 13, 14]⟩
      ·exact ⟨hk1, ke hr (by rw [h1, h2]; rfl)⟩
      ·omega
    ·have dX := And.intro dX (And.intro @bt (And.intro @h1 @h2));(repeat refine eV ?_);refine cgF rfl rfl ⟨rfl, _, rfl⟩ (by omega) (by first | exact dt | exact qv | exact ld) (yd ⟨false, f.t1, f.o2, f.t2, false, f.t3, false, f.t4⟩ N k o t s hg hk1 hl) ?_;rintro _ rfl
     repeat (apply bj; (focus exact rfl); (focus (simp (disch := first | omega | (intros; contradiction)) only [ac, az, pZ, simprocAttr, an, aq, bh, a6, am, if_pos, be, ax, ao, ap, cz, c9 , dt, qv, ld, bt, h1, h2]; exact rfl)))
     obtain h3 | h3 := Bool.eq_false_or_eq_true (dq N k s)
     ·have dX := And.intro dX (And.intro @bt (And.intro @h1 (And.intro @h2 @h3)));(repeat refine eV ?_);have dK := And.intro @bt (And.intro @h1 (And.intro @h2 @h3));refine aa (hK _ (a8 [1, 2, 13, 14, 34] ?_));clear hK K;refine dI ?_ ?_<;>intro hb
      ·cases hb
      ·refine ae ?_;show DW _ _ _ _ _;refine dR fun K hK => ?_;(repeat refine eV ?_);have dK := @bq;refine aa (hK _ ?_);clear hK K;show ∃ x, _ ∧ _ ∧ Weak _ _;refine ⟨k + 1, ?_, ?_, a7 [1, 2, 13, 14]⟩
       ·exact ⟨hk1, ke hr (by rw [h1, h2, h3]; rfl)⟩
       ·omega
     ·have hm : sy N s = false := Mv hk1 (by rw [h1, h2, h3]; rfl);have dX := And.intro dX (And.intro @bt (And.intro @h1 (And.intro @h2 @h3)));(repeat refine eV ?_);have dK := And.intro @bt (And.intro @h1 (And.intro @h2 @h3));refine aa (hK _ (a8 [1, 2, 13, 14, 34] ?_));clear hK K;refine dI ?_ ?_<;>intro hb
      ·refine ab (dR fun K hK => ?_);(repeat refine eV ?_);refine aa (hK _ (wK [4, 5] ?_));clear hK K;exact aj (al Tryz.results13 (.two (.plain _ _ rfl) (.plain _ _ rfl)) (by decide) (by rw [hb2, hm]; rfl))
      ·cases hb
  ·have hk2 : k = N.ends.length := by
    have : ¬ k < N.ends.length := by simpa using hb
    omega
   have hm : sy N s = pz N s := Id (hk2 ▸ hr);refine ay ?_;refine bi [1, 2] (by simp only [ac, pZ, simprocAttr]; exact rfl) ?_;refine ab (dR fun K hK => ?_);(repeat refine eV ?_);refine cL rfl ⟨rfl, _, rfl⟩ (by omega) (by first | exact Vb) (oa ⟨false, f.t1, f.o2, f.t2, false, f.t3, false, f.t4⟩ N o t s hg (uf hb3.2) hl) ?_;rintro _ rfl;(repeat refine eV ?_);refine aa (hK _ (wK [4, 5] ?_));clear hK K;exact aj (al Tryz.results13 (.two (.plain _ _ rfl) (.plain _ _ rfl)) (by decide) (by rw [hb2, hm]; rfl))
theorem pq (f : NF) (N : Net) (o : Bool) (t : TypeId) (s : List Int) (hn : N.ends.length ≤ 1000000) (hl : s.length ≤ 1000000) : DCalls Tryz.prog 19 [.agg (bw f N), .c (.sl o t 1 (s.map iC))] (fun r => r = [.c (.p (.bool (bn N && eg s 0 ((N.ends.length : Int) - 1) && sy N s))), .c (.p (.bool (bn N && eg s 0 ((N.ends.length : Int) - 1))))]) := by
 refine au Tryz.func19 rfl (by rw [Tryz.ntmps19]; simp) fun w0 => ?_;rw [Tryz.ntmps19];have dX := yj;simp only [ce, bm, Arg.av, bw, cm, ints, ends];refine ab (dR fun K hK => ?_);(repeat refine eV ?_);refine aa (hK _ (wK [1, 2] ?_));clear hK K;refine ab ?_;refine ab (dR fun K hK => ?_);(repeat refine eV ?_);refine cL rfl ⟨rfl, _, rfl⟩ (by omega) (by first | exact Yh) (Tv ⟨false, f.t1, f.o2, f.t2, false, f.t3, false, f.t4⟩ N o t s hl hn) ?_;rintro _ rfl;(repeat refine eV ?_);refine aa (hK _ (wK [1, 2, 10] ?_));clear hK K;refine dI ?_ ?_<;>intro hb
 ·have hb2 : (bn N && eg s 0 ((N.ends.length : Int) - 1)) = false := Eq.mp (Bool.not_eq_true' _) hb;refine ab (dR fun K hK => ?_);(repeat refine eV ?_);refine aa (hK _ (wK [4, 5] ?_));clear hK K;exact aj (al Tryz.results19 (.two (.plain _ _ rfl) (.plain _ _ rfl)) (by decide) (by rw [hb2]; rfl))
 ·have hb2 : (bn N && eg s 0 ((N.ends.length : Int) - 1)) = true := by simpa using hb
  have hb3 := Bool.and_eq_true_iff.1 hb2;have hg := hb3.1;obtain ⟨hs, hN, hids, hdg⟩ := dz hg;have hdk : ∀ v, (gl N.ends v).length ≤ 262144 := fun v => by have := hdg v; omega
  refine ae ?_;show DW _ _ _ _ _;refine ab ?_;refine ab (dR fun K hK => ?_);(repeat refine eV ?_);refine aa (hK _ (wK [1, 2, 13, 14] ?_));clear hK K;refine af ?_;refine ba (X := Nat) (fun k => k ≤ N.ends.length ∧ Ir N s k) (fun k => [(14, .c (.p (.int .i64 k)))]) (fun k => []) (fun k => N.ends.length - k) 0 ⟨Nat.zero_le _, fun j hj => absurd hj (Nat.not_lt_zero j)⟩ (by first | rfl | (simp only [ac, pZ, simprocAttr, Int.natCast_zero] <;> rfl)) ?_;rintro k ⟨hk, hr⟩;intro E hE;simp only [ac, pZ, simprocAttr] at hE;subst hE;refine ab (dR fun K hK => ?_);(repeat refine eV ?_);refine aa (hK _ (wK [1, 2, 13, 14, 15] ?_));clear hK K;refine ab (dI (fun hb => ?_) (fun hb => ?_))
  ·have hk1 : k < N.ends.length := by simpa using hb
   refine ae ?_;show DW _ _ _ _ _;refine ab (af ?_);refine ab (dR fun K hK => ?_);(repeat refine eV ?_);refine aa (hK _ (wK [1, 2, 6, 13, 14] ?_));clear hK K;refine ab (dR fun K hK => ?_);(repeat refine eV ?_);refine cL rfl ⟨rfl, _, rfl⟩ (by omega) (by first | exact ms | exact y6 | exact tq) (mt o t s k) ?_;rintro _ rfl;(repeat refine eV ?_);obtain h1 | h1 := Bool.eq_false_or_eq_true (dr s k)
   ·have dX := And.intro dX (@h1);(repeat refine eV ?_);have dX := And.intro dX (@h1);refine csF ?_;(repeat refine eV ?_);have dX := And.intro dX (@h1);(repeat refine eV ?_);have dX := And.intro dX (@h1);refine csF ?_;(repeat refine eV ?_);have dX := And.intro dX (@h1);(repeat refine eV ?_);have dK := @h1;refine aa (hK _ (a8 [1, 2, 13, 14, 32] ?_));clear hK K;refine dI ?_ ?_<;>intro hb
    ·cases hb
    ·refine ae ?_;show DW _ _ _ _ _;refine dR fun K hK => ?_;(repeat refine eV ?_);have dK := @bq;refine aa (hK _ ?_);clear hK K;show ∃ x, _ ∧ _ ∧ Weak _ _;refine ⟨k + 1, ?_, ?_, a7 [1, 2, 13, 14]⟩
     ·exact ⟨hk1, ke hr (by rw [h1]; rfl)⟩
     ·omega
   ·have dX := And.intro dX (@h1);(repeat refine eV ?_);have dX := And.intro dX (@h1);refine cgF rfl rfl ⟨rfl, _, rfl⟩ (by omega) (by first | exact ms | exact y6 | exact tq) (Ad ⟨false, f.t1, f.o2, f.t2, false, f.t3, false, f.t4⟩ N k hk1 (hdk k)) ?_;rintro _ rfl;(repeat refine eV ?_);obtain h2 | h2 := Bool.eq_false_or_eq_true (b8 N k k)
    ·have dX := And.intro dX (And.intro @h1 @h2);(repeat refine eV ?_);have dX := And.intro dX (And.intro @h1 @h2);refine csF ?_;(repeat refine eV ?_);have dX := And.intro dX (And.intro @h1 @h2);(repeat refine eV ?_);have dK := And.intro @h1 @h2;refine aa (hK _ (a8 [1, 2, 13, 14, 32] ?_));clear hK K;refine dI ?_ ?_<;>intro hb
     ·cases hb
     ·refine ae ?_;show DW _ _ _ _ _;refine dR fun K hK => ?_;(repeat refine eV ?_);have dK := @bq;refine aa (hK _ ?_);clear hK K;show ∃ x, _ ∧ _ ∧ Weak _ _;refine ⟨k + 1, ?_, ?_, a7 [1, 2, 13, 14]⟩
      ·exact ⟨hk1, ke hr (by rw [h1, h2]; rfl)⟩
      ·omega
    ·have dX := And.intro dX (And.intro @h1 @h2);(repeat refine eV ?_);have dX := And.intro dX (And.intro @h1 @h2);refine cgF rfl rfl ⟨rfl, _, rfl⟩ (by omega) (by first | exact ms | exact y6 | exact tq) (nw ⟨false, f.t1, f.o2, f.t2, false, f.t3, false, f.t4⟩ N k o t s hk1 (hdk k)) ?_;rintro _ rfl;(repeat refine eV ?_);obtain h3 | h3 := Bool.eq_false_or_eq_true (dq N k s)
     ·have dX := And.intro dX (And.intro @h1 (And.intro @h2 @h3));(repeat refine eV ?_);have dK := And.intro @h1 (And.intro @h2 @h3);refine aa (hK _ (a8 [1, 2, 13, 14, 32] ?_));clear hK K;refine dI ?_ ?_<;>intro hb
      ·cases hb
      ·refine ae ?_;show DW _ _ _ _ _;refine dR fun K hK => ?_;(repeat refine eV ?_);have dK := @bq;refine aa (hK _ ?_);clear hK K;show ∃ x, _ ∧ _ ∧ Weak _ _;refine ⟨k + 1, ?_, ?_, a7 [1, 2, 13, 14]⟩
       ·exact ⟨hk1, ke hr (by rw [h1, h2, h3]; rfl)⟩
       ·omega
     ·have hm : sy N s = false := Mv hk1 (by rw [h1, h2, h3]; rfl);have dX := And.intro dX (And.intro @h1 (And.intro @h2 @h3));(repeat refine eV ?_);have dK := And.intro @h1 (And.intro @h2 @h3);refine aa (hK _ (a8 [1, 2, 13, 14, 32] ?_));clear hK K;refine dI ?_ ?_<;>intro hb
      ·refine ab (dR fun K hK => ?_);(repeat refine eV ?_);refine aa (hK _ (wK [4, 5] ?_));clear hK K;exact aj (al Tryz.results19 (.two (.plain _ _ rfl) (.plain _ _ rfl)) (by decide) (by rw [hb2, hm]; rfl))
      ·cases hb
  ·have hk2 : k = N.ends.length := by
    have : ¬ k < N.ends.length := by simpa using hb
    omega
   have hm : sy N s = pz N s := Id (hk2 ▸ hr);refine ay ?_;refine bi [1, 2] (by simp only [ac, pZ, simprocAttr]; exact rfl) ?_;refine ab (dR fun K hK => ?_);(repeat refine eV ?_);refine cL rfl ⟨rfl, _, rfl⟩ (by omega) (by first | exact Yg) (zn ⟨false, f.t1, f.o2, f.t2, false, f.t3, false, f.t4⟩ N o t s hdk (uf hb3.2) hl) ?_;rintro _ rfl;(repeat refine eV ?_);refine aa (hK _ (wK [4, 5] ?_));clear hK K;exact aj (al Tryz.results19 (.two (.plain _ _ rfl) (.plain _ _ rfl)) (by decide) (by rw [hb2, hm]; rfl))
end
section
theorem lh (N : Net) (v : Nat) (s : List Int) : dq N v (bc s) = dq N v s := by
 rw [Bool.eq_iff_iff, gh, gh];exact ⟨fun ⟨x, h, j⟩ => ⟨x, dw.1 h, j⟩, fun ⟨x, h, j⟩ => ⟨x, dw.2 h, j⟩⟩
theorem Mr {N : Net} {v : Nat} {s : List Int} (h0 : ∀ x ∈ s, 0 ≤ x) : dq N v s = nrB (fun v w => b8 N v w) v s := by
 rw [Bool.eq_iff_iff, gh, nrB, List.any_eq_true];constructor
 ·rintro ⟨x, hx, hj⟩;exact ⟨x, hx, by rw [show ((x.toNat : Nat) : Int) = x by have := h0 x hx; omega]; exact hj⟩
 ·rintro ⟨x, hx, hj⟩;exact ⟨x, hx, by rw [show ((x.toNat : Nat) : Int) = x by have := h0 x hx; omega] at hj; exact hj⟩
theorem Ea {N : Net} (hg : bn N = true) : ∀ v w, v < N.ids.length → w < N.ids.length → gi N.ids v = gi N.ids w → v = w := by
 have h1 := (ib.1 hg).2.1;unfold td at h1;rw [Bool.and_eq_true, decide_eq_true_eq] at h1
 have key : ∀ v w, v < w → w < N.ids.length → gi N.ids v ≠ gi N.ids w := fun v w hvw hw he => by
  have h2 := (h1.1 w hw).2
  have h3 : dr (N.ids.take w) (gi N.ids w) = true := by
   rw [fb, ← he, bo (by omega)];exact List.mem_take_iff_getElem.2 ⟨v, by omega, rfl⟩
  rw [h3] at h2; cases h2
 intro v w hv hw he
 rcases Nat.lt_trichotomy v w with h | h | h
 ·exact absurd he (key v w h hw)
 ·exact h
 ·exact absurd he.symm (key w v h hv)
theorem B7 {N : Net} (hg : bn N = true) (h : N.ids.length ≠ 0) : N.ids.length = N.ends.length := by
 have h1 := (ib.1 hg).2.1;unfold td at h1;rw [Bool.and_eq_true, Bool.or_eq_true] at h1
 rcases h1.2 with h2 | h2
 ·exact absurd (by simpa using h2) h
 ·have h3 : (N.ids.length : Int) = N.ends.length := by simpa using h2
  omega
def lsB (N : Net) (ids O : List Int) (v : Nat) : Nat → Bool
 | 0 => true
 | k + 1 => lsB N ids O v k && (!dr O (gp (gl N.ends v) k).1 || decide (gi ids v < gi ids (gp (gl N.ends v) k).1.toNat))
theorem Mw {N : Net} {ids O : List Int} {v : Nat} : ∀ {k : Nat}, lsB N ids O v k = true ↔ ∀ j, j < k → (gp (gl N.ends v) j).1 ∈ O → gi ids v < gi ids (gp (gl N.ends v) j).1.toNat
 | 0 => by simp [lsB]
 | k + 1 => by
  rw [lsB, Bool.and_eq_true, Mw (k := k), Bool.or_eq_true, Bool.not_eq_true', decide_eq_true_eq];constructor
  ·rintro ⟨h1, h2⟩ j hj hm
   by_cases h : j = k
   ·subst h
    rcases h2 with h2 | h2
    ·rw [fb.2 hm] at h2; cases h2
    ·exact h2
   ·exact h1 j (by omega) hm
  ·intro h;refine ⟨fun j hj => h j (by omega), ?_⟩
   cases hb : dr O (gp (gl N.ends v) k).1 with
   | false => exact .inl rfl
   | true => exact .inr (h k (by omega) (fb.1 hb))
theorem Wn {N : Net} {O : List Int} (hl : N.ids.length = N.ends.length) (hd : ∀ v w, v < N.ids.length → w < N.ids.length → gi N.ids v = gi N.ids w → v = w) (hO : ∀ x ∈ O, 0 ≤ x ∧ x.toNat < N.ends.length ∧ b8 N x.toNat (x.toNat : Nat) = false) {v : Nat} (hv : (v : Int) ∈ O) : lsB N N.ids O v (gl N.ends v).length = !e9 (fun v w => b8 N v w) (rkN N.ids) v O := by
 have hvl := hO _ hv;rw [Int.toNat_natCast] at hvl;rw [Bool.eq_iff_iff, Mw, Bool.not_eq_true', ← Bool.not_eq_true, e9, List.any_eq_true];constructor
 ·rintro h ⟨x, hx, hp⟩;rw [Bool.and_eq_true, decide_eq_true_eq] at hp;have hxo := hO x hx;obtain ⟨j, hj, he⟩ := em.1 hp.1;have hxe : (gp (gl N.ends v) j).1 = x := by rw [he]; omega
  have h1 := h j hj (by rw [hxe]; exact hx);rw [hxe] at h1;have h2 := (zz (ids := N.ids) (by omega) (by omega)).1 hp.2;omega
 ·intro h j hj hm;refine Classical.byContradiction fun h1 => h ⟨_, hm, ?_⟩;have hxo := hO _ hm;have hj2 : b8 N v ((gp (gl N.ends v) j).1.toNat : Nat) = true := em.2 ⟨j, hj, by omega⟩;rw [Bool.and_eq_true, decide_eq_true_eq];refine ⟨hj2, (zz (ids := N.ids) (by omega) (by omega)).2 ?_⟩
  have h2 : gi N.ids v ≠ gi N.ids (gp (gl N.ends v) j).1.toNat := fun he => by
   have h3 := hd _ _ (by omega) (by omega) he;rw [← h3, hvl.2.2] at hj2; cases hj2
  omega
theorem wm {nr : Nat → Nat → Bool} {rk : Nat → Nat} {O : List Int} : ∀ k, ∀ x ∈ cp nr rk O k, x ∈ O
 | 0, _, h => h
 | k + 1, x, h => wm k x (wn.1 h).1
theorem rm {p : Int → Bool} {l : List Int} {k : Nat} (hk : k < l.length) : (l.take (k + 1)).filter p = (l.take k).filter p ++ if p (gi l k) = true then [gi l k] else [] := by
 rw [ow hk, List.filter_append]
 congr 1
 by_cases h : p (gi l k) = true
 ·rw [if_pos h]; simp [h]
 ·rw [if_neg h]; simp [h]
theorem Nw (nr : Nat → Nat → Bool) (rk : Nat → Nat) (O : List Int) : ∃ r, r ≤ O.length ∧ cp nr rk O r = [] ∧ ∀ j, j < r → cp nr rk O j ≠ [] := by
 have key : ∀ n, (∃ r, r ≤ n ∧ cp nr rk O r = [] ∧ ∀ j, j < r → cp nr rk O j ≠ []) ∨ ∀ j, j ≤ n → cp nr rk O j ≠ [] := by
  intro n
  induction n with
  | zero =>
   by_cases h : cp nr rk O 0 = []
   ·exact .inl ⟨0, Nat.le_refl _, h, fun j hj => absurd hj (Nat.not_lt_zero _)⟩
   ·exact .inr fun j hj => by
     obtain rfl : j = 0 := by omega
     exact h
  | succ n ih =>
   rcases ih with ⟨r, h1, h2⟩ | h1
   ·exact .inl ⟨r, by omega, h2⟩
   ·by_cases h : cp nr rk O (n + 1) = []
    ·exact .inl ⟨n + 1, Nat.le_refl _, h, fun j hj => h1 j (by omega)⟩
    ·exact .inr fun j hj => by
      by_cases hj2 : j = n + 1
      ·exact hj2 ▸ h
      ·exact h1 j (by omega)
 rcases key O.length with h | h
 ·exact h
 ·exfalso
  rcases Hw (nr := nr) (rk := rk) (O := O) O.length with h1 | h1
  ·have : cp nr rk O O.length = [] := List.eq_nil_of_length_eq_zero (by omega);exact h _ (Nat.le_refl _) this
  ·exact h _ (Nat.le_refl _) h1
theorem lm (N : Net) : ∀ k, (d7 N k).length ≤ k
 | 0 => Nat.le_refl _
 | k + 1 => by
  have := lm N k;rw [d7];split
  ·omega
  ·simp; omega
theorem B8 {p q : Int → Bool} (h : ∀ x, p x = true → q x = true → False) : ∀ l : List Int, (l.filter p).length + (l.filter q).length ≤ l.length
 | [] => by simp
 | x :: l => by
  have ih := B8 h l;rw [List.filter_cons, List.filter_cons]
  by_cases h1 : p x = true
  ·by_cases h2 : q x = true
   ·exact absurd h2 fun h2 => h x h1 h2
   ·rw [if_pos h1, if_neg h2]; simp only [List.length_cons]; omega
  ·rw [if_neg h1];split <;> simp only [List.length_cons] <;> omega
theorem v7 (nr : Nat → Nat → Bool) (rk : Nat → Nat) (O : List Int) : ∀ k, (jp nr rk O k).length + (cp nr rk O k).length ≤ O.length
 | 0 => by simp [jp, cp]
 | k + 1 => by
  have ih := v7 nr rk O k
  have h2 : (jnR nr rk (cp nr rk O k)).length + (opR nr rk (cp nr rk O k)).length ≤ (cp nr rk O k).length := by
   have h3 : opR nr rk (cp nr rk O k) = (cp nr rk O k).filter fun x => !((jnR nr rk (cp nr rk O k)).contains x || nrB nr x.toNat (jnR nr rk (cp nr rk O k))) := rfl
   have h4 : (opR nr rk (cp nr rk O k)).length ≤ ((cp nr rk O k).filter fun x => e9 nr rk x.toNat (cp nr rk O k)).length := by
    rw [h3];refine List.Sublist.length_le ?_
    have h5 : ((cp nr rk O k).filter fun x => !((jnR nr rk (cp nr rk O k)).contains x || nrB nr x.toNat (jnR nr rk (cp nr rk O k)))) = ((cp nr rk O k).filter fun x => e9 nr rk x.toNat (cp nr rk O k)).filter fun x => !((jnR nr rk (cp nr rk O k)).contains x || nrB nr x.toNat (jnR nr rk (cp nr rk O k))) := by
     rw [List.filter_filter];refine List.filter_congr fun x hx => ?_
     cases hl : e9 nr rk x.toNat (cp nr rk O k) with
     | true => simp
     | false =>
      have hj : x ∈ jnR nr rk (cp nr rk O k) := List.mem_filter.2 ⟨hx, by simp [hl]⟩;simp [hj]
    rw [h5];exact List.filter_sublist
   have h6 := B8 (p := fun x => !e9 nr rk x.toNat (cp nr rk O k)) (q := fun x => e9 nr rk x.toNat (cp nr rk O k)) (fun x h1 h2 => by rw [h2] at h1; cases h1) (cp nr rk O k);show (List.filter _ _).length + _ ≤ _;omega
  rw [jp, cp, List.length_append];omega
def qL (e : Int × Int × Int × Int) : List Int := [e.1, e.2.1, e.2.2.1, e.2.2.2]
theorem Cd (N : Net) (v : Nat) : ∀ m, jb N v m = (edN N v m).map qL
 | 0 => rfl
 | m + 1 => by
  rw [mv, Cd N v m, edN, Cb]
  have : ph N v m = edP N v m := by
   unfold ph edP;rw [Bool.eq_iff_iff];simp
  rw [this];split
  ·simp [qL]
  ·simp
theorem uy (N : Net) : ∀ m, kz N m = (edL N m).map qL
 | 0 => rfl
 | m + 1 => by rw [ux, uy N m, Cd, edL, List.map_append]
def I1 (N : Net) (col : List Int) : Bool := !(pn (edL N N.ends.length).length fun j => ((gq (edL N N.ends.length) j).1 != (gq (edL N N.ends.length) j).2.2.1) && gi col (gq (edL N N.ends.length) j).1.toNat == gi col (gq (edL N N.ends.length) j).2.2.1.toNat)
end
section
set_option maxHeartbeats 0
set_option maxRecDepth 8000
open Go Go.RowKit
def zBIp31 := PLift.up (And.intro an (And.intro aq (And.intro bh (And.intro a6 (And.intro am (And.intro @if_pos.{1} (And.intro @be (And.intro @ax (And.intro @ao (And.intro @ap @trivial))))))))))
theorem Lf : type_of% zBIp31.down := zBIp31.down
theorem Kh (f : NF) (N : Net) (o : Bool) (t : TypeId) (ord : List Int) (hg : bn N = true) (hp : ff ord N.ends.length = true) : DCalls Tryz.prog 84 [.agg (bw f N), .c (.sl o t 1 (ord.map iC))] (fun r => r = [.own false [.sl true 3 1 ((bc (cd (dm N) ord N.ends.length)).map iC)]]) := by
 obtain ⟨hs, hn, hids, hdg⟩ := dz hg;have hdk : ∀ v, (gl N.ends v).length ≤ 262144 := fun v => by have := hdg v; omega
 obtain ⟨hol, hoi, hod⟩ := js hp;have hs0 : bc (cd (dm N) ord 0) = [] := by simp [cd, bc]
 refine au Tryz.func84 rfl (by rw [Tryz.ntmps84]; simp) fun w0 => ?_;rw [Tryz.ntmps84];have dX := Lf;simp only [ce, bm, Arg.av, bw, cm, ints, ends];refine ab (dR fun K hK => ?_);(repeat refine eV ?_);refine aa (hK _ (wK [1, 2] ?_));clear hK K;refine ab (dR fun K hK => ?_);(repeat refine eV ?_);refine aa (hK _ (wK [1, 2, 5] ?_));clear hK K;refine ab ?_;have dX := And.intro dX (@hol);refine ab (dR fun K hK => ?_);(repeat refine eV ?_);have dK := @hol;refine aa (hK _ (a8 [2, 5, 8, 9, 10] ?_));clear hK K;refine af ?_;refine ev 5 3 1 (by decide) (by simp only [ac, pZ, simprocAttr]) [2, 5, 8, 9, 10] (by simp only [ac, pZ, simprocAttr]; exact rfl) ?_;refine ba (X := Nat) (fun k => k ≤ N.ends.length) (fun k => [(10, .c (.p (.int .i64 k)))]) (fun k => [((5, 0), ⟨none, [.sl true 3 1 ((bc (cd (dm N) ord k)).map iC)]⟩)]) (fun k => N.ends.length - k) 0 (Nat.zero_le _) (by first | rfl | (simp only [ac, pZ, simprocAttr, Int.natCast_zero, hs0] <;> rfl)) ?_;rintro k hk;intro E hE;simp only [ac, pZ, simprocAttr] at hE;subst hE;have hgl := l7 (bad := dm N) (ord := ord) k;refine ab (dR fun K hK => ?_);(repeat refine eV ?_);refine aa (hK _ (wK [2, 5, 8, 9, 10, 11] ?_));clear hK K;refine ab (dI (fun hb => ?_) (fun hb => ?_))
 ·have hk1 : k < N.ends.length := by simpa using hb
  have hnd := i9 (bad := dm N) hp (k + 1) hk1;obtain ⟨v, hve⟩ : ∃ v : Nat, gi ord k = v := ⟨(gi ord k).toNat, by have := hoi k hk1; omega⟩;have hvl : v < N.ends.length := by have := hoi k hk1; omega
  have hns : cd (dm N) ord (k + 1) = if dm N v (cd (dm N) ord k) = true then cd (dm N) ord k else cd (dm N) ord k ++ [(v : Int)] := by rw [cd, hve, Int.toNat_natCast]
  obtain ⟨S, hS⟩ : ∃ S, S = cd (dm N) ord k := ⟨_, rfl⟩;rw [← hS] at hns hgl ⊢;have hsl : (bc S).length ≤ 1000000 := by rw [dn]; omega
  have hnb := lh N v S;refine ae ?_;show DW _ _ _ _ _;refine ab (af ?_);have dX := And.intro dX (@hve);refine ab (dR fun K hK => ?_);(repeat refine eV ?_);have dK := @hve;refine aa (hK _ (a8 [2, 5, 7, 8, 9, 10] ?_));clear hK K;refine ab (dR fun K hK => ?_);(repeat refine eV ?_);refine cL rfl ⟨rfl, _, rfl⟩ (by omega) (by first | exact y6 | exact tq) (Ad ⟨false, f.t1, f.o2, f.t2, false, f.t3, false, f.t4⟩ N v hvl (hdk v)) ?_;rintro _ rfl;(repeat refine eV ?_);obtain h1 | h1 := Bool.eq_false_or_eq_true (b8 N v v)
  ·have hm : cd (dm N) ord (k + 1) = S := by rw [hns, if_pos (by simp [dm, h1])]
   have dX := And.intro dX (@h1);(repeat refine eV ?_);have dX := And.intro dX (@h1);refine csF ?_;(repeat refine eV ?_);have dX := And.intro dX (@h1);(repeat refine eV ?_);have dK := @h1;refine aa (hK _ (a8 [2, 5, 7, 8, 9, 10, 23] ?_));clear hK K;refine dI ?_ ?_<;>intro hb
   ·cases hb
   ·refine ae ?_;show DW _ _ _ _ _;refine dR fun K hK => ?_;(repeat refine eV ?_);have dK := And.intro @bq @hm;refine aa (hK _ ?_);clear hK K;show ∃ x, _ ∧ _ ∧ Weak _ _;refine ⟨k + 1, ?_, ?_, a7 [2, 5, 8, 9, 10]⟩
    ·omega
    ·omega
  ·have dX := And.intro dX (@h1);(repeat refine eV ?_);have dX := And.intro dX (@h1);refine cgF rfl rfl ⟨rfl, _, rfl⟩ (by omega) (by first | exact y6 | exact tq) (nw ⟨false, f.t1, f.o2, f.t2, false, f.t3, false, f.t4⟩ N v true 3 (bc S) hvl (hdk v)) ?_;rintro _ rfl;(repeat refine eV ?_);obtain h2 | h2 := Bool.eq_false_or_eq_true (dq N v S)
   ·have hm : cd (dm N) ord (k + 1) = S := by rw [hns, if_pos (by simp [dm, h1, h2])]
    have dX := And.intro dX (And.intro @h1 (And.intro @hnb @h2));(repeat refine eV ?_);have dK := And.intro @h1 (And.intro @hnb @h2);refine aa (hK _ (a8 [2, 5, 7, 8, 9, 10, 23] ?_));clear hK K;refine dI ?_ ?_<;>intro hb
    ·cases hb
    ·refine ae ?_;show DW _ _ _ _ _;refine dR fun K hK => ?_;(repeat refine eV ?_);have dK := And.intro @bq @hm;refine aa (hK _ ?_);clear hK K;show ∃ x, _ ∧ _ ∧ Weak _ _;refine ⟨k + 1, ?_, ?_, a7 [2, 5, 8, 9, 10]⟩
     ·omega
     ·omega
   ·have hm : cd (dm N) ord (k + 1) = S ++ [(v : Int)] := by rw [hns, if_neg (by simp [dm, h1, h2])]
    have hq : o8 (bc S) v = bc (cd (dm N) ord (k + 1)) := by rw [hm]; exact (qf (by rw [hm] at hnd; exact hnd)).symm
    have dX := And.intro dX (And.intro @h1 (And.intro @hnb @h2));(repeat refine eV ?_);have dK := And.intro @h1 (And.intro @hnb @h2);refine aa (hK _ (a8 [2, 5, 7, 8, 9, 10, 23] ?_));clear hK K;refine dI ?_ ?_<;>intro hb
    ·refine dR fun K hK => ?_;(repeat refine eV ?_);refine gmF (hag := fun _ => rfl) rfl ⟨rfl, _, rfl⟩ (by omega) (by first | exact Rg) (Ft 3 (bc S) v hsl rfl) ?_;rintro _ rfl;refine Ih ?_;(repeat refine eV ?_);have dK := @hq;refine aa (hK _ (a8 [2, 5, 8, 9, 10] ?_));clear hK K;refine dR fun K hK => ?_;(repeat refine eV ?_);have dK := @bq;refine aa (hK _ ?_);clear hK K;show ∃ x, _ ∧ _ ∧ Weak _ _;refine ⟨k + 1, ?_, ?_, a7 [2, 5, 8, 9, 10]⟩
     ·omega
     ·omega
    ·cases hb
 ·have hk2 : k = N.ends.length := by
   have : ¬ k < N.ends.length := by simpa using hb
   omega
  rw [hk2];refine ay ?_;refine bi [5] (by simp only [ac, pZ, simprocAttr]; exact rfl) ?_;refine ab (dR fun K hK => ?_);(repeat refine eV ?_);refine aa (hK _ (wK [4] ?_));clear hK K;exact aj (al Tryz.results84 (.one (.own _ _ _ _ rfl rfl (own1 (bd _ _)))) (by decide) rfl)
def indIdsSt21 : Nat → Stat
 | 0 => ⟨[12], [], [], [61], [], []⟩
 | 1 => ⟨[61], [], [], [62], [], []⟩
 | 2 => ⟨[5, 62], [], [], [63], [], []⟩
 | 3 => ⟨[14, 62], [], [], [64], [], []⟩
 | 4 => ⟨[63, 64, 62], [], [5], [65], [], []⟩
 | 5 => ⟨[65, 62], [], [], [66], [], []⟩
 | 6 => ⟨[66, 62], [], [], [67], [], []⟩
 | 7 => ⟨[1, 67], [(1, 1)], [], [68], [], []⟩
 | 8 => ⟨[68, 67], [(1, 1)], [], [69], [], []⟩
 | 9 => ⟨[11, 67], [], [], [70], [], []⟩
 | 10 => ⟨[69, 70, 67], [], [], [71], [], []⟩
 | 11 => ⟨[71, 67], [], [], [72], [], []⟩
 | 12 => ⟨[1, 67], [(1, 1)], [], [73], [], []⟩
 | 13 => ⟨[73, 67], [(1, 1)], [], [74], [], []⟩
 | 14 => ⟨[14, 67], [], [], [75], [], []⟩
 | 15 => ⟨[74, 75, 67], [], [], [76], [], []⟩
 | 16 => ⟨[76, 67], [], [], [77], [], []⟩
 | 17 => ⟨[72, 77, 67], [], [], [78], [], []⟩
 | 18 => ⟨[67, 78, 62], [], [], [79], [], []⟩
 | 19 => ⟨[62, 79], [], [], [80], [], []⟩
 | 20 => ⟨[80], [], [], [12], [], []⟩
 | _ => ⟨[], [], [], [], [], []⟩
theorem tg (f : NF) (N : Net) (h : bn N = false ∨ N.ids.length = 0) (hi : N.ids.length ≤ 1000000) : DCalls Tryz.prog 10 [.agg (bw f N)] (fun r => r = [.own false [.sl true 3 1 (([] : List Int).map iC)], .c (.p (.int .i64 0)), .c (.p (.bool false))]) := by
 refine au Tryz.func10 rfl (by rw [Tryz.ntmps10]; simp) fun w0 => ?_;rw [Tryz.ntmps10];have dX := Lf;simp only [ce, bm, Arg.av, bw, cm, ints, ends];refine ab (dR fun K hK => ?_);(repeat refine eV ?_);refine aa (hK _ (wK [1] ?_));clear hK K;refine ab ?_;refine ab (dR fun K hK => ?_);(repeat refine eV ?_);refine cL rfl ⟨rfl, _, rfl⟩ (by omega) (by first | exact qw) (l6 ⟨false, f.t1, f.o2, f.t2, false, f.t3, false, f.t4⟩ N) ?_;rintro _ rfl;(repeat refine eV ?_);obtain h1 | h1 := Bool.eq_false_or_eq_true (bn N)
 ·have h2 : ((N.ids.length : Int) == 0) = true := by
   rcases h with h | h
   ·rw [h1] at h; cases h
   ·simp [h]
  have dX := And.intro dX (And.intro @h1 @h2);(repeat refine eV ?_);have dK := And.intro @h1 @h2;refine aa (hK _ (a8 [1, 26] ?_));clear hK K;refine dI ?_ ?_<;>intro hb
  ·refine ab (dR fun K hK => ?_);(repeat refine eV ?_);refine aa (hK _ (wK [2, 3, 4] ?_));clear hK K;refine ev 2 3 1 (by decide) (by simp only [ac, pZ, simprocAttr]) [2, 3, 4] (by simp only [ac, pZ, simprocAttr]; exact rfl) ?_;exact aj (al Tryz.results10 (.three (.own _ _ _ _ rfl rfl (own1 (bd _ []))) (.plain _ _ rfl) (.plain _ _ rfl)) (by decide) rfl)
  ·cases hb
 ·have dX := And.intro dX (@h1);(repeat refine eV ?_);have dK := @h1;refine aa (hK _ (a8 [1, 26] ?_));clear hK K;refine dI ?_ ?_<;>intro hb
  ·refine ab (dR fun K hK => ?_);(repeat refine eV ?_);refine aa (hK _ (wK [2, 3, 4] ?_));clear hK K;refine ev 2 3 1 (by decide) (by simp only [ac, pZ, simprocAttr]) [2, 3, 4] (by simp only [ac, pZ, simprocAttr]; exact rfl) ?_;exact aj (al Tryz.results10 (.three (.own _ _ _ _ rfl rfl (own1 (bd _ []))) (.plain _ _ rfl) (.plain _ _ rfl)) (by decide) rfl)
  ·cases hb
theorem vl (f : NF) (N : Net) (r : Nat) (O : List Int) (J : Nat → Nat → Bool) (rk : Nat → Nat) (hO : O = d7 N N.ends.length) (hJ : J = fun (v w : Nat) => b8 N v (w : Int)) (hrk : rk = rkN N.ids) (hg : bn N = true) (hi : N.ids.length ≠ 0) (hr : cp J rk O r = []) (hlt : ∀ j, j < r → cp J rk O j ≠ []) (hrl : r ≤ 1000) : DCalls Tryz.prog 10 [.agg (bw f N)] (fun res => res = [.own false [.sl true 3 1 ((bc (jp J rk O r)).map iC)], .c (.p (.int .i64 r)), .c (.p (.bool true))]) := by
 obtain ⟨hs, hn, hids, hdg⟩ := dz hg;have hdk : ∀ v, (gl N.ends v).length ≤ 262144 := fun v => by have := hdg v; omega
 have hil := B7 hg hi;have hdi := Ea hg;have hOl : O.length ≤ 40 := by have := lm N N.ends.length; rw [hO]; omega
 have hOn : O.Nodup := by rw [hO]; exact kn N _
 have hOm : ∀ x ∈ O, 0 ≤ x ∧ x.toNat < N.ends.length ∧ b8 N x.toNat (x.toNat : Nat) = false := fun x hx => by rw [hO] at hx; exact jl.1 hx
 have hil0 : ((N.ids.length : Int) == 0) = false := by simpa using hi
 have hs0 : bc (jp J rk O 0) = [] := by simp [jp, bc]
 have ho0 : cp J rk O 0 = O := rfl;refine au Tryz.func10 rfl (by rw [Tryz.ntmps10]; simp) fun w0 => ?_;rw [Tryz.ntmps10];have dX := Lf;simp only [ce, bm, Arg.av, bw, cm, ints, ends];refine ab (dR fun K hK => ?_);(repeat refine eV ?_);refine aa (hK _ (wK [1] ?_));clear hK K;refine ab ?_;refine ab (dR fun K hK => ?_);(repeat refine eV ?_);refine cL rfl ⟨rfl, _, rfl⟩ (by omega) (by first | exact qw) (l6 ⟨false, f.t1, f.o2, f.t2, false, f.t3, false, f.t4⟩ N) ?_;rintro _ rfl;(repeat refine eV ?_);have dX := And.intro dX (And.intro @hg @hil0);(repeat refine eV ?_);have dK := And.intro @hg @hil0;refine aa (hK _ (a8 [1, 26] ?_));clear hK K;refine dI ?_ ?_<;>intro hb
 ·cases hb
 ·refine ae ?_;show DW _ _ _ _ _;refine ab (dR fun K hK => ?_);(repeat refine eV ?_);refine aa (hK _ (wK [1, 5, 6] ?_));clear hK K;refine ab ?_;refine ab (dR fun K hK => ?_);(repeat refine eV ?_);refine aa (hK _ (wK [1, 5, 6, 29, 30] ?_));clear hK K;refine af ?_;refine ev 5 3 1 (by decide) (by simp only [ac, pZ, simprocAttr]) [1, 5, 6, 29, 30] (by simp only [ac, pZ, simprocAttr]; exact rfl) ?_;refine ba (X := Nat) (fun k => k ≤ N.ends.length) (fun k => [(30, .c (.p (.int .i64 k)))]) (fun k => [((5, 0), ⟨none, [.sl true 3 1 ((d7 N k).map iC)]⟩)]) (fun k => N.ends.length - k) 0 (Nat.zero_le _) (by first | rfl | (simp only [ac, pZ, simprocAttr, Int.natCast_zero, d7] <;> rfl)) ?_;rintro k hk;intro E hE;simp only [ac, pZ, simprocAttr] at hE;subst hE;have hfl := lm N k;refine ab (dR fun K hK => ?_);(repeat refine eV ?_);refine aa (hK _ (wK [1, 5, 6, 29, 30, 31] ?_));clear hK K;refine ab (dI (fun hb => ?_) (fun hb => ?_))
  ·have hk1 : k < N.ends.length := by simpa using hb
   refine ae ?_;show DW _ _ _ _ _;refine ab (af ?_);refine ab (dR fun K hK => ?_);(repeat refine eV ?_);refine aa (hK _ (wK [1, 5, 6, 7, 29, 30] ?_));clear hK K;refine ab (dR fun K hK => ?_);(repeat refine eV ?_);refine cL rfl ⟨rfl, _, rfl⟩ (by omega) (by first | exact y6) (Ad ⟨false, f.t1, f.o2, f.t2, false, f.t3, false, f.t4⟩ N k hk1 (hdk k)) ?_;rintro _ rfl;(repeat refine eV ?_);refine aa (hK _ (wK [1, 5, 6, 7, 29, 30, 36] ?_));clear hK K;refine dI ?_ ?_<;>intro hb
   ·have hm : d7 N (k + 1) = d7 N k ++ [(k : Int)] := by rw [d7, if_neg (by simpa using hb)]
    refine dR fun K hK => ?_;(repeat refine eV ?_);have dK := And.intro @f8 (Eq.symm hm);refine aa (hK _ (a8 [1, 5, 6, 29, 30] ?_));clear hK K;refine dR fun K hK => ?_;(repeat refine eV ?_);have dK := @bq;refine aa (hK _ ?_);clear hK K;show ∃ x, _ ∧ _ ∧ Weak _ _;refine ⟨k + 1, ?_, ?_, a7 [1, 5, 6, 29, 30]⟩
    ·omega
    ·omega
   ·have hm : d7 N (k + 1) = d7 N k := by rw [d7, if_pos (by simpa using hb)]
    refine ae ?_;show DW _ _ _ _ _;refine dR fun K hK => ?_;(repeat refine eV ?_);have dK := And.intro @bq (Eq.symm hm);refine aa (hK _ ?_);clear hK K;show ∃ x, _ ∧ _ ∧ Weak _ _;refine ⟨k + 1, ?_, ?_, a7 [1, 5, 6, 29, 30]⟩
    ·omega
    ·omega
  ·have hk2 : k = N.ends.length := by
    have : ¬ k < N.ends.length := by simpa using hb
    omega
   rw [hk2, ← hO];refine ay ?_;refine bi [1, 5, 6] (by simp only [ac, pZ, simprocAttr]; exact rfl) ?_;refine ab (dR fun K hK => ?_);(repeat refine eV ?_);refine aa (hK _ (wK [1, 5, 6, 8] ?_));clear hK K;refine ev 6 3 1 (by decide) (by simp only [ac, pZ, simprocAttr]) [1, 5, 6, 8] (by simp only [ac, pZ, simprocAttr]; exact rfl) ?_;refine ab (af ?_);refine ba (X := Nat) (fun i => i ≤ r) (fun i => [(8, .c (.p (.int .i64 i)))]) (fun i => [((5, 0), ⟨none, [.sl true 3 1 ((cp J rk O i).map iC)]⟩), ((6, 0), ⟨none, [.sl true 3 1 ((bc (jp J rk O i)).map iC)]⟩)]) (fun i => r - i) 0 (Nat.zero_le _) (by first | rfl | (simp only [ac, pZ, simprocAttr, Int.natCast_zero, hs0, ho0] <;> rfl)) ?_;rintro i hi2;intro E hE;simp only [ac, pZ, simprocAttr] at hE;subst hE;have hsl := v7 J rk O i;have hsub := wm (nr := J) (rk := rk) (O := O) i;have hnd := o0 (nr := J) (rk := rk) hOn (i + 1);have hsr : jp J rk O (i + 1) = jp J rk O i ++ (cp J rk O i).filter fun x => !e9 J rk x.toNat (cp J rk O i) := rfl;have hor : cp J rk O (i + 1) = (cp J rk O i).filter fun x => !(((cp J rk O i).filter fun x => !e9 J rk x.toNat (cp J rk O i)).contains x || nrB J x.toNat ((cp J rk O i).filter fun x => !e9 J rk x.toNat (cp J rk O i))) := rfl
   by_cases hir : i < r
   ·have hne : 0 < (cp J rk O i).length := by
     rcases Nat.eq_zero_or_pos (cp J rk O i).length with h | h
     ·exact absurd (List.eq_nil_of_length_eq_zero h) (hlt i hir)
     ·exact h
    obtain ⟨T, hT⟩ : ∃ T, T = cp J rk O i := ⟨_, rfl⟩;obtain ⟨U, hU⟩ : ∃ U, U = jp J rk O i := ⟨_, rfl⟩;rw [← hT] at hsl hsub hsr hor hne ⊢;rw [← hU] at hsl hsr ⊢;rw [hsr] at hnd
    have hTn : ∀ q, q < T.length → ∃ v : Nat, gi T q = v ∧ v < N.ends.length ∧ (v : Int) ∈ T := fun q hq => by
     have h1 := List.getElem_mem hq;rw [← bo hq] at h1;have h2 := hOm _ (hsub _ h1);exact ⟨(gi T q).toNat, by omega, by omega, by rw [show (((gi T q).toNat : Nat) : Int) = gi T q by omega]; exact h1⟩
    have hTl : ∀ x ∈ T, 0 ≤ x ∧ x.toNat < N.ends.length ∧ b8 N x.toNat (x.toNat : Nat) = false := fun x hx => hOm x (hsub x hx);have hgt : decide ((T.length : Int) > 0) = true := decide_eq_true (by omega);have hf0 : bc (U ++ (T.take 0).filter fun x => !e9 J rk x.toNat T) = bc U := by simp
    have hg0 : (T.take 0).filter (fun x => !e9 J rk x.toNat T) = [] := by simp
    have hfa : (T.take T.length).filter (fun x => !e9 J rk x.toNat T) = T.filter fun x => !e9 J rk x.toNat T := by rw [List.take_length]
    refine ab ?_;have dX := And.intro dX (@hgt);refine ab (dR fun K hK => ?_);(repeat refine eV ?_);have dK := @hgt;refine aa (hK _ (a8 [1, 5, 6, 8, 44] ?_));clear hK K;refine dI ?_ ?_<;>intro hb
    ·refine ae ?_;show DW _ _ _ _ _;refine af ?_;refine ab (dR fun K hK => ?_);(repeat refine eV ?_);have dK := @bq;refine aa (hK _ (a8 [1, 5, 6, 8] ?_));clear hK K;refine ab (dR fun K hK => ?_);(repeat refine eV ?_);refine aa (hK _ (wK [1, 5, 6, 8, 9] ?_));clear hK K;refine ev 9 3 1 (by decide) (by simp only [ac, pZ, simprocAttr]) [1, 5, 6, 8, 9] (by simp only [ac, pZ, simprocAttr]; exact rfl) ?_;refine ab ?_;refine ab (dR fun K hK => ?_);(repeat refine eV ?_);refine aa (hK _ (wK [1, 5, 6, 8, 9, 47, 48, 49] ?_));clear hK K;refine af ?_;refine ba (X := Nat) (fun q => q ≤ T.length) (fun q => [(49, .c (.p (.int .i64 q)))]) (fun q => [((6, 0), ⟨none, [.sl true 3 1 ((bc (U ++ (T.take q).filter fun x => !e9 J rk x.toNat T)).map iC)]⟩), ((9, 0), ⟨none, [.sl true 3 1 (((T.take q).filter fun x => !e9 J rk x.toNat T).map iC)]⟩)]) (fun q => T.length - q) 0 (Nat.zero_le _) (by first | rfl | (simp only [ac, pZ, simprocAttr, Int.natCast_zero, hf0, hg0] <;> rfl)) ?_;rintro q hq;intro E hE;simp only [ac, pZ, simprocAttr] at hE;subst hE;have hql : ((T.take q).filter fun x => !e9 J rk x.toNat T).length ≤ T.length := Nat.le_trans (List.length_filter_le _ _) (by rw [List.length_take]; omega);refine ab (dR fun K hK => ?_);(repeat refine eV ?_);refine aa (hK _ (wK [1, 5, 6, 8, 9, 47, 48, 49, 50] ?_));clear hK K;refine ab (dI (fun hb => ?_) (fun hb => ?_))
     ·have hq1 : q < T.length := by simpa using hb
      obtain ⟨v, hve, hvl, hvm⟩ := hTn q hq1;have hft := rm (p := fun x => !e9 J rk x.toNat T) hq1;rw [hve, Int.toNat_natCast] at hft;have hll : lsB N N.ids T v (gl N.ends v).length = !e9 J rk v T := by rw [hJ, hrk]; exact Wn hil hdi hTl hvm
      obtain ⟨L, hL⟩ : ∃ L, L = ik N v (gl N.ends v).length := ⟨_, rfl⟩;have hLl : L.length = (gl N.ends v).length := by rw [hL, xt]; simp
      have hLi : ∀ j, j < (gl N.ends v).length → gi L j = (gp (gl N.ends v) j).1 := fun j hj => by rw [hL]; exact H6 rfl hj
      have hLb : L.length ≤ 262144 := by rw [hLl]; exact hdk v
      have hz0 : lsB N N.ids T v 0 = true := rfl;refine ae ?_;show DW _ _ _ _ _;refine ab (af ?_);have dX := And.intro dX (@hve);refine ab (dR fun K hK => ?_);(repeat refine eV ?_);have dK := @hve;refine aa (hK _ (a8 [1, 5, 6, 8, 9, 11, 47, 48, 49] ?_));clear hK K;refine ab (dR fun K hK => ?_);(repeat refine eV ?_);refine aa (hK _ (wK [1, 5, 6, 8, 9, 11, 12, 47, 48, 49] ?_));clear hK K;refine ab ?_;have dX := And.intro dX ((Eq.symm hL));refine ab (dR fun K hK => ?_);(repeat refine eV ?_);have dX := And.intro dX ((Eq.symm hL));refine cL rfl ⟨rfl, _, rfl⟩ (by omega) (by first | exact y5) (qt ⟨false, f.t1, f.o2, f.t2, false, f.t3, false, f.t4⟩ N v hvl (hdk v)) ?_;rintro _ rfl;(repeat refine eV ?_);have dK := (Eq.symm hL);refine aa (hK _ (a8 [1, 5, 6, 8, 9, 11, 12, 47, 48, 49, 55, 56, 57] ?_));clear hK K;refine af ?_;refine ba (X := Nat) (fun m => m ≤ L.length) (fun m => [(12, .c (.p (.bool (lsB N N.ids T v m)))), (57, .c (.p (.int .i64 m)))]) (fun m => []) (fun m => L.length - m) 0 (Nat.zero_le _) (by first | rfl | (simp only [ac, pZ, simprocAttr, Int.natCast_zero, hz0, ← hL] <;> rfl)) ?_;rintro m hm;intro E hE;simp only [ac, pZ, simprocAttr] at hE;subst hE;refine ab (dR fun K hK => ?_);(repeat refine eV ?_);refine aa (hK _ (wK [1, 5, 6, 8, 9, 11, 12, 47, 48, 49, 55, 56, 57, 58] ?_));clear hK K;refine ab (dI (fun hb => ?_) (fun hb => ?_))
      ·have hm1 : m < L.length := by simpa using hb
       obtain ⟨q1, q2, q3, q4, q5⟩ := t6 hs hvl (show m < (gl N.ends v).length by omega);obtain ⟨u, hu⟩ : ∃ u, u = nd N v m := ⟨_, rfl⟩;rw [← hu] at q1 q5;have hLu : gi L m = (u : Int) := by rw [hLi m (by omega), q5]
       have hst : lsB N N.ids T v (m + 1) = (lsB N N.ids T v m && (!dr T (u : Int) || decide (gi N.ids v < gi N.ids u))) := by rw [lsB, q5]; rfl
       refine ae ?_;show DW _ _ _ _ _;refine ab (af ?_);have dX := And.intro dX (@hLu);refine ab (dR fun K hK => ?_);(repeat refine eV ?_);have dK := @hLu;refine aa (hK _ (a8 [1, 5, 6, 8, 9, 11, 12, 14, 47, 48, 49, 55, 56, 57] ?_));clear hK K;obtain h1 | h1 := Bool.eq_false_or_eq_true (lsB N N.ids T v m)
       ·obtain h2 | h2 := Bool.eq_false_or_eq_true (dr T (u : Int))
        ·have hf : decide (gi N.ids v < gi N.ids u) = lsB N N.ids T v (m + 1) := by rw [hst, h1, h2]; simp
         have dX := And.intro dX (And.intro @indIdsSt21.eq_def (And.intro @h1 @Int.toNat_natCast));refine gy indIdsSt21 (fun j r => match j with | 4 => r = [.c (.p (.bool (dr T (u : Int))))] | _ => True) fun K hK => ?_;(repeat refine dV ?_);have dX := And.intro dX (And.intro @indIdsSt21.eq_def (And.intro @h1 @Int.toNat_natCast));refine dgF rfl rfl ⟨rfl, _, rfl⟩ (by omega) (by first | exact ms) (mt true 3 T u) ?_;rintro _ rfl;(repeat refine dV ?_);have dX := And.intro dX (And.intro @indIdsSt21.eq_def (And.intro @h1 (And.intro @h2 @Int.toNat_natCast)));(repeat refine dV ?_);have dK := And.intro @h1 (And.intro @h2 @hf);refine b0 (hK _ (a8 [1, 5, 6, 8, 9, 11, 12, 47, 48, 49, 55, 56, 57] ?_));clear hK K;refine dR fun K hK => ?_;(repeat refine eV ?_);have dK := @bq;refine aa (hK _ ?_);clear hK K;show ∃ x, _ ∧ _ ∧ Weak _ _;refine ⟨m + 1, ?_, ?_, a7 [1, 5, 6, 8, 9, 11, 12, 47, 48, 49, 55, 56, 57]⟩
         ·omega
         ·omega
        ·have hf : lsB N N.ids T v (m + 1) = true := by rw [hst, h1, h2]; rfl
         have dX := And.intro dX (And.intro @indIdsSt21.eq_def @h1);refine gy indIdsSt21 (fun j r => match j with | 4 => r = [.c (.p (.bool (dr T (u : Int))))] | _ => True) fun K hK => ?_;(repeat refine dV ?_);have dX := And.intro dX (And.intro @indIdsSt21.eq_def @h1);refine dgF rfl rfl ⟨rfl, _, rfl⟩ (by omega) (by first | exact ms) (mt true 3 T u) ?_;rintro _ rfl;(repeat refine dV ?_);have dX := And.intro dX (And.intro @indIdsSt21.eq_def (And.intro @h1 @h2));(repeat refine dV ?_);have dK := And.intro @h1 @h2;refine b0 (hK _ (a8 [1, 5, 6, 8, 9, 11, 12, 47, 48, 49, 55, 56, 57] ?_));clear hK K;refine dR fun K hK => ?_;(repeat refine eV ?_);have dK := And.intro @bq @hf;refine aa (hK _ ?_);clear hK K;show ∃ x, _ ∧ _ ∧ Weak _ _;refine ⟨m + 1, ?_, ?_, a7 [1, 5, 6, 8, 9, 11, 12, 47, 48, 49, 55, 56, 57]⟩
         ·omega
         ·omega
       ·have hf : lsB N N.ids T v (m + 1) = false := by rw [hst, h1]; rfl
        have dX := And.intro dX (And.intro @indIdsSt21.eq_def @h1);refine gy indIdsSt21 (fun j r => match j with | 4 => r = [.c (.p (.bool (dr T (u : Int))))] | _ => True) fun K hK => ?_;(repeat refine dV ?_);have dX := And.intro dX (And.intro @indIdsSt21.eq_def @h1);refine dsF ?_;(repeat refine dV ?_);have dK := @h1;refine b0 (hK _ (a8 [1, 5, 6, 8, 9, 11, 12, 47, 48, 49, 55, 56, 57] ?_));clear hK K;refine dR fun K hK => ?_;(repeat refine eV ?_);have dK := And.intro @bq @hf;refine aa (hK _ ?_);clear hK K;show ∃ x, _ ∧ _ ∧ Weak _ _;refine ⟨m + 1, ?_, ?_, a7 [1, 5, 6, 8, 9, 11, 12, 47, 48, 49, 55, 56, 57]⟩
        ·omega
        ·omega
      ·have hm2 : m = (gl N.ends v).length := by
        have : ¬ m < L.length := by simpa using hb
        omega
       rw [hm2, hll];refine ay ?_;refine bi [1, 5, 6, 8, 9, 11, 12, 47, 48, 49] (by simp only [ac, pZ, simprocAttr]; exact rfl) ?_;refine ab (dR fun K hK => ?_);(repeat refine eV ?_);refine aa (hK _ (wK [1, 5, 6, 8, 9, 11, 47, 48, 49, 82] ?_));clear hK K;refine dI ?_ ?_<;>intro hb
       ·have hft2 : ((T.take q).filter fun x => !e9 J rk x.toNat T) ++ [(v : Int)] = (T.take (q + 1)).filter fun x => !e9 J rk x.toNat T := by rw [hft, if_pos hb]
        have hnu : (U ++ ((T.take q).filter fun x => !e9 J rk x.toNat T) ++ [(v : Int)]).Nodup := by
         rw [List.append_assoc, hft2];exact hnd.1.sublist ((List.Sublist.refl U).append ((List.take_sublist _ _).filter _))
        have hpt : o8 (bc (U ++ (T.take q).filter fun x => !e9 J rk x.toNat T)) v = bc (U ++ (T.take (q + 1)).filter fun x => !e9 J rk x.toNat T) := by rw [← qf hnu, List.append_assoc, hft2]
        have hsu : (bc (U ++ (T.take q).filter fun x => !e9 J rk x.toNat T)).length ≤ 1000000 := by rw [dn, List.length_append]; omega
        refine ab (dR fun K hK => ?_);(repeat refine eV ?_);have dK := And.intro @f8 @hft2;refine aa (hK _ (a8 [1, 5, 6, 8, 9, 11, 47, 48, 49] ?_));clear hK K;refine dR fun K hK => ?_;(repeat refine eV ?_);refine gmF (hag := fun _ => rfl) rfl ⟨rfl, _, rfl⟩ (by omega) (by first | exact Rg) (Ft 3 (bc (U ++ (T.take q).filter fun x => !e9 J rk x.toNat T)) v hsu rfl) ?_;rintro _ rfl;refine Ih ?_;(repeat refine eV ?_);have dK := @hpt;refine aa (hK _ (a8 [1, 5, 6, 8, 9, 47, 48, 49] ?_));clear hK K;refine dR fun K hK => ?_;(repeat refine eV ?_);have dK := @bq;refine aa (hK _ ?_);clear hK K;show ∃ x, _ ∧ _ ∧ Weak _ _;refine ⟨q + 1, ?_, ?_, a7 [1, 5, 6, 8, 9, 47, 48, 49]⟩
        ·omega
        ·omega
       ·have hft2 : (T.take (q + 1)).filter (fun x => !e9 J rk x.toNat T) = (T.take q).filter fun x => !e9 J rk x.toNat T := by rw [hft, if_neg (by rw [hb]; decide), List.append_nil]
        refine ae ?_;show DW _ _ _ _ _;refine dR fun K hK => ?_;(repeat refine eV ?_);have dK := And.intro @bq @hft2;refine aa (hK _ ?_);clear hK K;show ∃ x, _ ∧ _ ∧ Weak _ _;refine ⟨q + 1, ?_, ?_, a7 [1, 5, 6, 8, 9, 47, 48, 49]⟩
        ·omega
        ·omega
     ·have hq2 : q = T.length := by
       have : ¬ q < T.length := by simpa using hb
       omega
      rw [hq2, hfa, ← hsr];obtain ⟨V, hV⟩ : ∃ V, V = T.filter fun x => !e9 J rk x.toNat T := ⟨_, rfl⟩;rw [← hV] at hor ⊢;have hV0 : ∀ x ∈ V, 0 ≤ x := fun x hx => by rw [hV] at hx; exact (hTl x (List.mem_filter.1 hx).1).1
      have hVl : V.length ≤ 1000000 := by rw [hV]; exact Nat.le_trans (List.length_filter_le _ _) (by omega)
      have hw0 : (T.take 0).filter (fun x => !(V.contains x || nrB J x.toNat V)) = [] := by simp
      have hwa : (T.take T.length).filter (fun x => !(V.contains x || nrB J x.toNat V)) = cp J rk O (i + 1) := by rw [List.take_length, hor]
      refine ay ?_;refine bi [1, 5, 6, 8, 9] (by simp only [ac, pZ, simprocAttr]; exact rfl) ?_;refine ab (dR fun K hK => ?_);(repeat refine eV ?_);refine aa (hK _ (wK [1, 5, 6, 8, 9, 15] ?_));clear hK K;refine ev 15 3 1 (by decide) (by simp only [ac, pZ, simprocAttr]) [1, 5, 6, 8, 9, 15] (by simp only [ac, pZ, simprocAttr]; exact rfl) ?_;refine ab ?_;refine ab (dR fun K hK => ?_);(repeat refine eV ?_);refine aa (hK _ (wK [1, 5, 6, 8, 9, 15, 91, 92, 93] ?_));clear hK K;refine af ?_;refine ba (X := Nat) (fun q => q ≤ T.length) (fun q => [(93, .c (.p (.int .i64 q)))]) (fun q => [((15, 0), ⟨none, [.sl true 3 1 (((T.take q).filter fun x => !(V.contains x || nrB J x.toNat V)).map iC)]⟩)]) (fun q => T.length - q) 0 (Nat.zero_le _) (by first | rfl | (simp only [ac, pZ, simprocAttr, Int.natCast_zero, hw0] <;> rfl)) ?_;rintro q hq;intro E hE;simp only [ac, pZ, simprocAttr] at hE;subst hE;have hql : ((T.take q).filter fun x => !(V.contains x || nrB J x.toNat V)).length ≤ T.length := Nat.le_trans (List.length_filter_le _ _) (by rw [List.length_take]; omega);refine ab (dR fun K hK => ?_);(repeat refine eV ?_);refine aa (hK _ (wK [1, 5, 6, 8, 9, 15, 91, 92, 93, 94] ?_));clear hK K;refine ab (dI (fun hb => ?_) (fun hb => ?_))
      ·have hq1 : q < T.length := by simpa using hb
       obtain ⟨v, hve, hvl, hvm⟩ := hTn q hq1;have hft := rm (p := fun x => !(V.contains x || nrB J x.toNat V)) hq1;rw [hve, Int.toNat_natCast] at hft;have hnv : dq N v V = nrB J v V := by rw [hJ]; exact Mr hV0
       have hcv : V.contains (v : Int) = dr V (v : Int) := rfl;refine ae ?_;show DW _ _ _ _ _;refine ab (af ?_);have dX := And.intro dX (@hve);refine ab (dR fun K hK => ?_);(repeat refine eV ?_);have dK := @hve;refine aa (hK _ (a8 [1, 5, 6, 8, 9, 15, 17, 91, 92, 93] ?_));clear hK K;refine ab (dR fun K hK => ?_);(repeat refine eV ?_);refine cL rfl ⟨rfl, _, rfl⟩ (by omega) (by first | exact ms | exact tq) (mt true 3 V v) ?_;rintro _ rfl;(repeat refine eV ?_);obtain h1 | h1 := Bool.eq_false_or_eq_true (dr V (v : Int))
       ·have hft2 : (T.take (q + 1)).filter (fun x => !(V.contains x || nrB J x.toNat V)) = (T.take q).filter fun x => !(V.contains x || nrB J x.toNat V) := by rw [hft, if_neg (by rw [hcv, h1]; simp), List.append_nil]
        have dX := And.intro dX (@h1);(repeat refine eV ?_);have dX := And.intro dX (@h1);refine csF ?_;(repeat refine eV ?_);have dX := And.intro dX (@h1);(repeat refine eV ?_);have dK := @h1;refine aa (hK _ (a8 [1, 5, 6, 8, 9, 15, 17, 91, 92, 93, 106] ?_));clear hK K;refine dI ?_ ?_<;>intro hb
        ·cases hb
        ·refine ae ?_;show DW _ _ _ _ _;refine dR fun K hK => ?_;(repeat refine eV ?_);have dK := And.intro @bq @hft2;refine aa (hK _ ?_);clear hK K;show ∃ x, _ ∧ _ ∧ Weak _ _;refine ⟨q + 1, ?_, ?_, a7 [1, 5, 6, 8, 9, 15, 91, 92, 93]⟩
         ·omega
         ·omega
       ·have dX := And.intro dX (@h1);(repeat refine eV ?_);have dX := And.intro dX (@h1);refine cgF rfl rfl ⟨rfl, _, rfl⟩ (by omega) (by first | exact ms | exact tq) (nw ⟨false, f.t1, f.o2, f.t2, false, f.t3, false, f.t4⟩ N v true 3 V hvl (hdk v)) ?_;rintro _ rfl;(repeat refine eV ?_);obtain h2 | h2 := Bool.eq_false_or_eq_true (dq N v V)
        ·have hft2 : (T.take (q + 1)).filter (fun x => !(V.contains x || nrB J x.toNat V)) = (T.take q).filter fun x => !(V.contains x || nrB J x.toNat V) := by rw [hft, if_neg (by rw [hcv, h1, ← hnv, h2]; decide), List.append_nil]
         have dX := And.intro dX (And.intro @h1 @h2);(repeat refine eV ?_);have dK := And.intro @h1 @h2;refine aa (hK _ (a8 [1, 5, 6, 8, 9, 15, 17, 91, 92, 93, 106] ?_));clear hK K;refine dI ?_ ?_<;>intro hb
         ·cases hb
         ·refine ae ?_;show DW _ _ _ _ _;refine dR fun K hK => ?_;(repeat refine eV ?_);have dK := And.intro @bq @hft2;refine aa (hK _ ?_);clear hK K;show ∃ x, _ ∧ _ ∧ Weak _ _;refine ⟨q + 1, ?_, ?_, a7 [1, 5, 6, 8, 9, 15, 91, 92, 93]⟩
          ·omega
          ·omega
        ·have hft2 : ((T.take q).filter fun x => !(V.contains x || nrB J x.toNat V)) ++ [(v : Int)] = (T.take (q + 1)).filter fun x => !(V.contains x || nrB J x.toNat V) := by rw [hft, if_pos (by rw [hcv, h1, ← hnv, h2]; decide)]
         have dX := And.intro dX (And.intro @h1 @h2);(repeat refine eV ?_);have dK := And.intro @h1 @h2;refine aa (hK _ (a8 [1, 5, 6, 8, 9, 15, 17, 91, 92, 93, 106] ?_));clear hK K;refine dI ?_ ?_<;>intro hb
         ·refine dR fun K hK => ?_;(repeat refine eV ?_);have dK := And.intro @f8 @hft2;refine aa (hK _ (a8 [1, 5, 6, 8, 9, 15, 91, 92, 93] ?_));clear hK K;refine dR fun K hK => ?_;(repeat refine eV ?_);have dK := @bq;refine aa (hK _ ?_);clear hK K;show ∃ x, _ ∧ _ ∧ Weak _ _;refine ⟨q + 1, ?_, ?_, a7 [1, 5, 6, 8, 9, 15, 91, 92, 93]⟩
          ·omega
          ·omega
         ·cases hb
      ·have hq2 : q = T.length := by
        have : ¬ q < T.length := by simpa using hb
        omega
       rw [hq2, hwa];refine ay ?_;refine bi [1, 6, 8, 15] (by simp only [ac, pZ, simprocAttr]; exact rfl) ?_;refine dR fun K hK => ?_;(repeat refine eV ?_);refine aa (hK _ ?_);clear hK K;show ∃ x, _ ∧ _ ∧ Weak _ _;refine ⟨i + 1, ?_, ?_, U0 [1, 5, 6, 8]⟩
       ·omega
       ·omega
    ·cases hb
   ·have hir2 : i = r := by omega
    have hgt : decide (((cp J rk O i).length : Int) > 0) = false := decide_eq_false (by rw [hir2, hr]; simp);refine ab ?_;have dX := And.intro dX (@hgt);refine ab (dR fun K hK => ?_);(repeat refine eV ?_);have dK := @hgt;refine aa (hK _ (a8 [1, 5, 6, 8, 44] ?_));clear hK K;refine dI ?_ ?_<;>intro hb
    ·cases hb
    ·refine ay ?_;refine bi [6, 8] (by simp only [ac, pZ, simprocAttr]; exact rfl) ?_;refine ab (dR fun K hK => ?_);(repeat refine eV ?_);refine aa (hK _ (wK [2, 3, 4] ?_));clear hK K;exact aj (al Tryz.results10 (.three (.own _ _ _ _ rfl rfl (own1 (bd _ _))) (.plain _ _ rfl) (.plain _ _ rfl)) (by decide) (by rw [hir2]))
end
section
section
variable {bad : Nat → List Int → Bool} {ord : List Int} {n : Nat}
theorem Kz {ok : Nat → Bool} {nr : Nat → Nat → Bool} {rk : Nat → Nat} (hp : ff ord n = true) (hok : ∀ v, ok v = true → v < n) (hbad : ∀ v s, v < n → (∀ x ∈ s, 0 ≤ x) → (bad v s = false ↔ ok v = true ∧ ∀ x ∈ s, nr v x.toNat = false)) (hmon : ∀ i j, i < j → j < n → rk (gi ord i).toNat ≤ rk (gi ord j).toNat) (hdf : ∀ v w, ok v = true → v < n → w < n → nr v w = true → rk v ≠ rk w) : RankSet ok nr rk fun v => (v : Int) ∈ cd bad ord n := by
 obtain ⟨hl, h0, hd⟩ := js hp
 have hpos : ∀ k, k ≤ n → ∀ x ∈ cd bad ord k, 0 ≤ x := fun k hk x hx => by
  obtain ⟨i, hi, rfl⟩ := er k hx;exact (h0 i (by omega)).1
 refine ⟨fun v hv => ?_, fun v hv => ?_⟩
 ·obtain ⟨i, hi, he⟩ := er n hv;have h1 := (si (bad := bad) hp hi).1 (he ▸ hv);rw [← he, Int.toNat_natCast] at h1;exact ((hbad v _ (by have := h0 i hi; omega) (hpos i (by omega))).1 h1).1
 ·obtain ⟨i, hi, he⟩ := Mn hp (hok v hv)
  have hat : ((v : Int) ∈ cd bad ord n) ↔ ∀ x ∈ cd bad ord i, nr v x.toNat = false := by
   rw [← he, si hp hi, he, Int.toNat_natCast, hbad v _ (hok v hv) (hpos i (by omega))];exact ⟨fun h => h.2, fun h => ⟨hv, h⟩⟩
  have hrv : (gi ord i).toNat = v := by omega
  rw [hat];constructor
  ·intro h w hw hn hr;obtain ⟨j, hj, hje⟩ := er n hw;have hrw : (gi ord j).toNat = w := by omega
   have h1 : j < i := by
    rcases Nat.lt_trichotomy j i with h5 | h5 | h5
    ·exact h5
    ·subst h5; rw [hrv] at hrw; subst hrw; omega
    ·have := hmon i j h5 hj; rw [hrw, hrv] at this; omega
   have h2 := (si (bad := bad) hp hj).1 (hje ▸ hw);have h3 : (w : Int) ∈ cd bad ord (j + 1) := by rw [cd, h2, hje]; simp
   have h4 := h w (ll (by omega) h3);simp at h4; rw [h4] at hn; cases hn
  ·intro h x hx;obtain ⟨j, hj, hje⟩ := er i hx;have hjn := h0 j (by omega);have h1 := ll (bad := bad) (ord := ord) (k := n) (by omega) hx;have h2 := hmon j i hj hi;rw [hrv] at h2
   cases hn : nr v x.toNat with
   | false => rfl
   | true =>
    have h6 := hdf v x.toNat hv (hok v hv) (by rw [hje]; omega) hn;refine absurd ?_ (h x.toNat (by rwa [show ((x.toNat : Nat) : Int) = x by omega]) hn);rw [hje] at h6 ⊢; omega
theorem Il {l m : List Int} : ∀ {k : Nat}, k ≤ l.length → cd bad (l ++ m) k = cd bad l k
 | 0, _ => rfl
 | k + 1, h => by
  have h1 : gi (l ++ m) k = gi l k := by unfold gi; rw [List.getD_eq_getElem?_getD, List.getD_eq_getElem?_getD, List.getElem?_append_left (by omega)]
  rw [cd, cd, Il (by omega), h1]
theorem R0 {l : List Int} {x : Int} : cd bad (l ++ [x]) (l ++ [x]).length = if bad x.toNat (cd bad l l.length) = true then cd bad l l.length else cd bad l l.length ++ [x] := by
 have h1 : gi (l ++ [x]) l.length = x := by unfold gi; simp
 rw [show (l ++ [x]).length = l.length + 1 by simp, cd, Il (Nat.le_refl _), h1]
theorem B4 : ∀ {k : Nat}, k ≤ ord.length → (cd bad ord k).Sublist (ord.take k)
 | 0, _ => by simp [cd]
 | k + 1, h => by
  have h1 := B4 (k := k) (by omega);rw [cd, ow (by omega)];split
  ·exact h1.trans (List.sublist_append_left _ _)
  ·exact h1.append (List.Sublist.refl _)
theorem T0 (h : ord.Nodup) : (cd bad ord ord.length).Nodup := by
 have := B4 (bad := bad) (ord := ord) (Nat.le_refl _);rw [List.take_length] at this;exact h.sublist this
end
def ka (col : List Int) (c : Int) : Nat → List Int
 | 0 => []
 | v + 1 => if gi col v = c then ka col c v ++ [(v : Int)] else ka col c v
def fm (col : List Int) : Nat → List Int
 | 0 => []
 | c + 1 => fm col c ++ ka col c col.length
section
variable {col : List Int}
theorem j5 {c : Int} : ∀ {k : Nat} {x : Int}, x ∈ ka col c k ↔ ∃ v : Nat, x = v ∧ v < k ∧ gi col v = c
 | 0, x => by simp [ka]
 | k + 1, x => by
  rw [ka]
  by_cases h : gi col k = c
  ·rw [if_pos h, List.mem_append, j5, List.mem_singleton];constructor
   ·rintro (⟨v, h1, h2, h3⟩ | h1)
    ·exact ⟨v, h1, by omega, h3⟩
    ·exact ⟨k, h1, by omega, h⟩
   ·rintro ⟨v, h1, h2, h3⟩
    by_cases h4 : v = k
    ·exact .inr (h4 ▸ h1)
    ·exact .inl ⟨v, h1, by omega, h3⟩
  ·rw [if_neg h, j5];constructor
   ·rintro ⟨v, h1, h2, h3⟩; exact ⟨v, h1, by omega, h3⟩
   ·rintro ⟨v, h1, h2, h3⟩
    by_cases h4 : v = k
    ·subst h4; exact absurd h3 h
    ·exact ⟨v, h1, by omega, h3⟩
theorem qq : ∀ {m : Nat} {x : Int}, x ∈ fm col m ↔ ∃ v : Nat, x = v ∧ v < col.length ∧ 0 ≤ gi col v ∧ gi col v < m
 | 0, x => by
  simp only [fm, List.not_mem_nil, false_iff];rintro ⟨v, h1, h2, h3, h4⟩; omega
 | m + 1, x => by
  rw [fm, List.mem_append, qq, j5];constructor
  ·rintro (⟨v, h1, h2, h3, h4⟩ | ⟨v, h1, h2, h3⟩)
   ·exact ⟨v, h1, h2, h3, by omega⟩
   ·exact ⟨v, h1, h2, by omega, by omega⟩
  ·rintro ⟨v, h1, h2, h3, h4⟩
   by_cases h5 : gi col v = m
   ·exact .inr ⟨v, h1, h2, h5⟩
   ·exact .inl ⟨v, h1, h2, h3, by omega⟩
theorem Gh (c : Int) : ∀ k, (ka col c k).Nodup
 | 0 => List.nodup_nil
 | k + 1 => by
  rw [ka];split
  ·refine List.nodup_append.2 ⟨Gh c k, by simp, fun a ha b hb => ?_⟩;obtain ⟨v, h1, h2, -⟩ := j5.1 ha;rw [List.mem_singleton] at hb;omega
  ·exact Gh c k
theorem Bl (m k : Nat) : ∀ (_ : (fm col m).Nodup), (fm col m ++ ka col m k).Nodup := fun h => by
 refine List.nodup_append.2 ⟨h, Gh _ _, fun a ha b hb => ?_⟩;obtain ⟨v, h1, h2, h3, h4⟩ := qq.1 ha;obtain ⟨w, g1, g2, g3⟩ := j5.1 hb;intro he;obtain rfl : v = w := by omega
 omega
theorem z8 : ∀ m, (fm col m).Nodup
 | 0 => List.nodup_nil
 | m + 1 => Bl m _ (z8 m)
theorem Bm : ∀ m, (fm col m).Pairwise fun a b => gi col a.toNat ≤ gi col b.toNat
 | 0 => List.Pairwise.nil
 | m + 1 => by
  rw [fm];refine List.pairwise_append.2 ⟨Bm m, ?_, fun a ha b hb => ?_⟩
  ·refine List.pairwise_iff_getElem.2 fun i j hi hj _ => ?_;obtain ⟨v, h1, -, h2⟩ := j5.1 (List.getElem_mem hi);obtain ⟨w, g1, -, g2⟩ := j5.1 (List.getElem_mem hj);rw [h1, g1, Int.toNat_natCast, Int.toNat_natCast, h2, g2]; exact Int.le_refl _
  ·obtain ⟨v, h1, h2, h3, h4⟩ := qq.1 ha;obtain ⟨w, g1, g2, g3⟩ := j5.1 hb;rw [h1, g1, Int.toNat_natCast, Int.toNat_natCast, g3]; omega
theorem Hq {l m : List Int} (h1 : l.Nodup) (h2 : m.Nodup) (h : ∀ x, x ∈ l ↔ x ∈ m) : l.Perm m := by
 have := B1 (fk h1) (fk h2) fun x => by rw [dw, dw]; exact h x
 exact (fz l).symm.trans (this ▸ fz m)
theorem Dx {m : Nat} (h : ∀ v, v < col.length → 0 ≤ gi col v ∧ gi col v < m) : ff (fm col m) col.length = true := by
 refine uj (Hq (z8 m) ?_ fun x => ?_)
 ·unfold ez;refine List.pairwise_map.2 ((List.nodup_range (n := col.length)).imp fun hab => ?_);intro h; exact hab (by omega)
 ·rw [qq];unfold ez;rw [List.mem_map];constructor
  ·rintro ⟨v, h1, h2, -⟩; exact ⟨v, List.mem_range.2 h2, h1.symm⟩
  ·rintro ⟨v, h1, h2⟩;have hv := List.mem_range.1 h1;exact ⟨v, h2.symm, hv, (h v hv).1, (h v hv).2⟩
end
def Ui (N : Net) (col : List Int) : Prop := ∀ v w : Nat, v < N.ends.length → w < N.ends.length → v ≠ w → b8 N v w = true → gi col v ≠ gi col w
section
variable {N : Net} {col : List Int}
theorem Ci {ord : List Int} (hc : ∀ v, v < N.ends.length → 0 ≤ gi col v) (hcd : Ui N col) (hp : ff ord N.ends.length = true) (hm : ∀ i j, i < j → j < N.ends.length → gi col (gi ord i).toNat ≤ gi col (gi ord j).toNat) :
 RankSet (fun v => decide (v < N.ends.length) && !b8 N v v) (fun (v w : Nat) => b8 N v (w : Int)) (fun v => (gi col v).toNat) fun v => (v : Int) ∈ cd (dm N) ord N.ends.length := by
 obtain ⟨hl, h0, -⟩ := js hp;refine Kz hp (fun v h => by simp at h; exact h.1) (fun v s hv h0 => Ng hv h0) (fun i j hij hj => ?_) fun v w hv hvl hwl hn he => ?_
 ·have h1 := hm i j hij hj;have h2 := hc (gi ord i).toNat (by have := h0 i (by omega); omega);omega
 ·simp at hv
  by_cases h : v = w
  ·subst h; rw [hv.2] at hn; cases hn
  ·have h1 := hcd v w hvl hwl h hn;have h2 := hc v hvl;have h3 := hc w hwl;omega
theorem Pe {ord : List Int} {m : Nat} (hl : col.length = N.ends.length) (hc : ∀ v, v < col.length → 0 ≤ gi col v ∧ gi col v < m) (hcd : Ui N col) (hp : ff ord N.ends.length = true) (hm : ∀ i j, i < j → j < N.ends.length → gi col (gi ord i).toNat ≤ gi col (gi ord j).toNat) : bc (cd (dm N) (fm col m) N.ends.length) = bc (cd (dm N) ord N.ends.length) := by
 have hpC := Dx hc;rw [hl] at hpC
 have h1 := Ci (fun v hv => (hc v (by omega)).1) hcd hpC fun i j hij hj => by
  have h2 := List.pairwise_iff_getElem.1 (Bm (col := col) m) i j;have h3 := (js hpC).1;have h4 := h2 (by omega) (by omega) hij;rw [bo (show i < (fm col m).length by omega), bo (show j < (fm col m).length by omega)]; exact h4
 have h2 := Ci (fun v hv => (hc v (by omega)).1) hcd hp hm;have h3 := h1.unique h2;refine B1 (fk (i9 hpC _ (Nat.le_refl _))) (fk (i9 hp _ (Nat.le_refl _))) fun x => ?_;rw [dw, dw];constructor
 ·intro hx;obtain ⟨i, hi, he⟩ := er _ hx;have h4 := ((js hpC).2.1 i hi).1;have h5 : ((x.toNat : Nat) : Int) = x := by omega
  rw [← h5] at hx ⊢;exact (h3 _).1 hx
 ·intro hx;obtain ⟨i, hi, he⟩ := er _ hx;have h4 := ((js hp).2.1 i hi).1;have h5 : ((x.toNat : Nat) : Int) = x := by omega
  rw [← h5] at hx ⊢;exact (h3 _).2 hx
theorem I0 (hs : Sym N.ends) : I1 N col = true ↔ Ui N col := by
 unfold I1 Ui;rw [Bool.not_eq_true', ← Bool.not_eq_true, me];constructor
 ·intro h v w hv hw hne hj he;obtain ⟨j, hj2, hje⟩ := em.1 hj;obtain ⟨e, hee, h6⟩ := M5 hs hv hj2;obtain ⟨q, hq, rfl⟩ := List.mem_iff_getElem.1 hee;refine h ⟨q, hq, ?_⟩;rw [zc hq, Bool.and_eq_true]
  rcases h6 with ⟨h7, h8⟩ | ⟨h7, h8⟩ <;> rw [h7, h8, hje]
  ·exact ⟨by simp; omega, by simp [he]⟩
  ·exact ⟨by simp; omega, by simp [he]⟩
 ·rintro h ⟨q, hq, hqe⟩;obtain ⟨k, i, hk, hi, -, he⟩ := xb (List.getElem_mem hq);rw [← zc hq] at he;obtain ⟨q1, q2, q3, q4, q5⟩ := t6 hs hk hi;rw [he, q5, Bool.and_eq_true] at hqe;dsimp only at hqe;rw [Int.toNat_natCast, Int.toNat_natCast] at hqe;refine h k (nd N k i) hk q1 (fun h => ?_) (em.2 ⟨i, hi, by rw [q5]⟩) (by simpa using hqe.2);have := hqe.1;rw [← h] at this;simp at this
end
theorem y8 : ∀ (xs : List Int) (a : Int), a ≤ xs.foldl (fun n k => mst n (k + 1)) a ∧ ∀ x ∈ xs, x + 1 ≤ xs.foldl (fun n k => mst n (k + 1)) a
 | [], a => ⟨Int.le_refl _, fun x hx => absurd hx List.not_mem_nil⟩
 | y :: xs, a => by
  obtain ⟨h1, h2⟩ := y8 xs (mst a (y + 1));rw [List.foldl_cons];have h3 : a ≤ mst a (y + 1) ∧ y + 1 ≤ mst a (y + 1) := by unfold mst; split <;> omega
  refine ⟨by omega, fun x hx => ?_⟩
  rcases List.mem_cons.1 hx with rfl | hx
  ·omega
  ·exact h2 x hx
theorem Mx {xs : List Int} {x : Int} (h : x ∈ xs) : x < i7 xs := by
 have := (y8 xs 0).2 x h;unfold i7; omega
end
section
set_option maxHeartbeats 0
set_option maxRecDepth 8000
open Go Go.RowKit
def mtColSt6 : Nat → Stat
 | 0 => ⟨[6], [], [], [25], [], []⟩
 | 1 => ⟨[25], [], [], [26], [], []⟩
 | 2 => ⟨[26], [], [], [27], [], []⟩
 | 3 => ⟨[6], [], [], [28], [], []⟩
 | 4 => ⟨[28], [], [], [29], [], []⟩
 | 5 => ⟨[29], [], [], [30], [], []⟩
 | 6 => ⟨[27, 30], [], [], [31], [], []⟩
 | 7 => ⟨[31], [], [], [32], [], []⟩
 | 8 => ⟨[1, 32], [], [], [33], [], []⟩
 | 9 => ⟨[6, 32], [], [], [34], [], []⟩
 | 10 => ⟨[34, 32], [], [], [35], [], []⟩
 | 11 => ⟨[35, 32], [], [], [36], [], []⟩
 | 12 => ⟨[33, 36, 32], [], [], [37], [], []⟩
 | 13 => ⟨[37, 32], [], [], [38], [], []⟩
 | 14 => ⟨[1, 32], [], [], [39], [], []⟩
 | 15 => ⟨[6, 32], [], [], [40], [], []⟩
 | 16 => ⟨[40, 32], [], [], [41], [], []⟩
 | 17 => ⟨[41, 32], [], [], [42], [], []⟩
 | 18 => ⟨[39, 42, 32], [], [], [43], [], []⟩
 | 19 => ⟨[43, 32], [], [], [44], [], []⟩
 | 20 => ⟨[38, 44, 32], [], [], [45], [], []⟩
 | 21 => ⟨[32, 45], [], [], [46], [], []⟩
 | _ => ⟨[], [], [], [], [], []⟩
def rr (N : Net) (col : List Int) : Bool := ((col.length : Int) == (N.ends.length : Int)) && ol col 0 40 && I1 N col
def edC (N : Net) (col : List Int) (j : Nat) : Bool := ((gq (edL N N.ends.length) j).1 != (gq (edL N N.ends.length) j).2.2.1) && gi col (gq (edL N N.ends.length) j).1.toNat == gi col (gq (edL N N.ends.length) j).2.2.1.toNat
theorem Ai (N : Net) (col : List Int) : I1 N col = !(pn (edL N N.ends.length).length (edC N col)) := rfl
theorem Og {l : List Int} {n k : Nat} (h : l.Nodup) (hm : ∀ x ∈ l, ∃ v : Nat, x = v ∧ v < n) (hk : n ≤ k) : l.length ≤ k := by
 have h1 : (bc l).length = l.length := dn l;have h2 := fk h
 have h3 : ∀ i, (hi : i < (bc l).length) → (i : Int) ≤ (bc l)[i] := by
  intro i
  induction i with
  | zero =>
   intro hi;obtain ⟨v, h4, -⟩ := hm _ (dw.1 (List.getElem_mem hi));omega
  | succ i ih =>
   intro hi;have h4 := ih (by omega);have h5 := List.pairwise_iff_getElem.1 h2 i (i + 1) (by omega) hi (by omega);omega
 rcases Nat.eq_zero_or_pos l.length with h4 | h4
 ·omega
 ·have h5 := h3 (l.length - 1) (by omega);obtain ⟨v, h6, h7⟩ := hm _ (dw.1 (List.getElem_mem (show l.length - 1 < (bc l).length by omega)));omega
def zBIp51 := PLift.up (And.intro an (And.intro aq (And.intro bh (And.intro a6 (And.intro am (And.intro @if_pos.{1} (And.intro @be (And.intro @ax (And.intro @ao (And.intro @ap (And.intro dh (And.intro @dk (And.intro @cl @trivial)))))))))))))
theorem Ld : type_of% zBIp51.down := zBIp51.down
theorem wt (f : NF) (N : Net) (o : Bool) (t : TypeId) (col : List Int) (hg : bn N = true) (hcl : col.length ≤ 1000000) : DCalls Tryz.prog 82 [.agg (bw f N), .c (.sl o t 1 (col.map iC))] (fun r => r = [.c (.p (.bool (rr N col)))]) := by
 obtain ⟨hs, hn, hids, hdg⟩ := dz hg;have hel := sq N hdg N.ends.length;refine au Tryz.func82 rfl (by rw [Tryz.ntmps82]; simp) fun w0 => ?_;rw [Tryz.ntmps82];have dX := Ld;simp only [ce, bm, Arg.av, bw, cm, ints, ends];refine ab (dR fun K hK => ?_);(repeat refine eV ?_);refine aa (hK _ (wK [1, 2] ?_));clear hK K;refine ab ?_
 by_cases h1 : (col.length : Int) = (N.ends.length : Int)
 ·have d1 : ((col.length : Int) != (N.ends.length : Int)) = false := by simp [h1]
  have d1' : ((col.length : Int) == (N.ends.length : Int)) = true := by simp [h1]
  have dX := And.intro dX (@d1);refine ab (dR fun K hK => ?_);(repeat refine eV ?_);have dX := And.intro dX (@d1);refine cgF rfl rfl ⟨rfl, _, rfl⟩ (by omega) (by first | exact Wk) (Ty o t col 0 40) ?_;rintro _ rfl;(repeat refine eV ?_);obtain h2 | h2 := Bool.eq_false_or_eq_true (ol col 0 40)
  ·have dX := And.intro dX (And.intro @d1 @h2);(repeat refine eV ?_);have dK := And.intro @d1 @h2;refine aa (hK _ (a8 [1, 2, 17] ?_));clear hK K;refine dI ?_ ?_<;>intro hb
   ·cases hb
   ·refine ae ?_;show DW _ _ _ _ _;refine ab ?_;refine ab (dR fun K hK => ?_);(repeat refine eV ?_);refine cL rfl ⟨rfl, _, rfl⟩ (by omega) (by first | exact Wf) (Ov ⟨false, f.t1, f.o2, f.t2, false, f.t3, false, f.t4⟩ N (by omega) (fun v _ => hdg v)) ?_;rintro _ rfl;(repeat refine eV ?_);have hll : (kz N N.ends.length).length = (edL N N.ends.length).length := by rw [uy, List.length_map]
    have dK := @hll;refine aa (hK _ (a8 [1, 19, 20, 21] ?_));clear hK K;refine K7 19 [1, 19, 20, 21] rfl rfl (by simp only [ac, pZ, simprocAttr, Qw, Mc, Fe, Fd, xm]; exact rfl) ?_;refine af ?_;refine ba (X := Nat) (fun k => k ≤ (edL N N.ends.length).length ∧ ∀ j, j < k → edC N col j = false) (fun k => [(21, .c (.p (.int .i64 k)))]) (fun k => []) (fun k => (edL N N.ends.length).length - k) 0 ⟨Nat.zero_le _, fun j hj => absurd hj (Nat.not_lt_zero j)⟩ (by first | rfl | (simp only [ac, pZ, simprocAttr, Int.natCast_zero] <;> rfl)) ?_;rintro k ⟨hk, hr⟩;intro E hE;simp only [ac, pZ, simprocAttr] at hE;subst hE;have dX := And.intro dX (@hll);refine ab (dR fun K hK => ?_);(repeat refine eV ?_);have dK := @hll;refine aa (hK _ (a8 [1, 19, 20, 21, 22] ?_));clear hK K;refine ab (dI (fun hb => ?_) (fun hb => ?_))
    ·have hk1 : k < (edL N N.ends.length).length := by simpa using hb
     obtain ⟨v, i, hv, hi, -, he⟩ := xb (List.getElem_mem hk1);rw [← zc hk1] at he;obtain ⟨q1, q2, q3, q4, q5⟩ := t6 hs hv hi;obtain ⟨u, hu⟩ : ∃ u, u = nd N v i := ⟨_, rfl⟩;rw [← hu] at q1 q5;rw [q5] at he;obtain ⟨R, hR⟩ : ∃ R, R = lg (kz N N.ends.length) k := ⟨_, rfl⟩
     have hRe : R = [(v : Int), (i : Int), (u : Int), ((bk N v i : Nat) : Int)] := by
      rw [hR, lg, uy, List.getD_eq_getElem?_getD, List.getElem?_map, List.getElem?_eq_getElem hk1];rw [zc hk1] at he;simp [he, qL]
     have hRl : R.length = 4 := by rw [hRe]; rfl
     have hR0 : gi R 0 = (v : Int) := by rw [hRe]; rfl
     have hR2 : gi R 2 = (u : Int) := by rw [hRe]; rfl
     have hcd : edC N col k = (((v : Int) != (u : Int)) && gi col v == gi col u) := by unfold edC; rw [he]; rfl
     have t2 : Int.toNat 2 = 2 := rfl;refine ae ?_;show DW _ _ _ _ _;refine ab (af ?_);have dX := And.intro dX (And.intro (Eq.symm hR) @hll);refine ab (dR fun K hK => ?_);(repeat refine eV ?_);have dK := (Eq.symm hR);refine aa (hK _ (a8 [1, 6, 19, 20, 21] ?_));clear hK K;obtain h3 | h3 := Bool.eq_false_or_eq_true ((v : Int) != (u : Int))
     ·have dX := And.intro dX (And.intro @mtColSt6.eq_def (And.intro @hRl (And.intro @hR0 (And.intro @hR2 (And.intro @t2 (And.intro @h3 @Int.toNat_natCast))))));refine ab (gy mtColSt6 (fun j r => True) fun K hK => ?_);(repeat refine dV ?_);have dK := @h3;refine b0 (hK _ (a8 [1, 19, 20, 21, 46] ?_));clear hK K;refine dI ?_ ?_<;>intro hb
      ·have hno : I1 N col = false := by
        rw [Ai, me.2 ⟨k, hk1, by rw [hcd, h3]; simpa using hb⟩]; rfl
       refine ab (dR fun K hK => ?_);(repeat refine eV ?_);refine aa (hK _ (wK [4] ?_));clear hK K;exact aj (al Tryz.results82 (.one (.plain _ _ rfl)) (by decide) (by rw [rr, hno, Bool.and_false]))
      ·refine ae ?_;show DW _ _ _ _ _;refine dR fun K hK => ?_;(repeat refine eV ?_);have dK := @bq;refine aa (hK _ ?_);clear hK K;show ∃ x, _ ∧ _ ∧ Weak _ _;refine ⟨k + 1, ?_, ?_, a7 [1, 19, 20, 21]⟩
       ·exact ⟨hk1, fun j hj => by by_cases h : j = k; (rw [h, hcd, h3, Bool.true_and]; exact hb); exact hr j (by omega)⟩
       ·omega
     ·have dX := And.intro dX (And.intro @mtColSt6.eq_def (And.intro @hRl (And.intro @hR0 (And.intro @hR2 (And.intro @t2 @h3)))));refine ab (gy mtColSt6 (fun j r => True) fun K hK => ?_);(repeat refine dV ?_);have dK := @h3;refine b0 (hK _ (a8 [1, 19, 20, 21, 46] ?_));clear hK K;refine dI ?_ ?_<;>intro hb
      ·cases hb
      ·refine ae ?_;show DW _ _ _ _ _;refine dR fun K hK => ?_;(repeat refine eV ?_);have dK := @bq;refine aa (hK _ ?_);clear hK K;show ∃ x, _ ∧ _ ∧ Weak _ _;refine ⟨k + 1, ?_, ?_, a7 [1, 19, 20, 21]⟩
       ·exact ⟨hk1, fun j hj => by by_cases h : j = k; (rw [h, hcd, h3, Bool.false_and]); exact hr j (by omega)⟩
       ·omega
    ·have hk2 : k = (edL N N.ends.length).length := by
      have : ¬ k < (edL N N.ends.length).length := by simpa using hb
      omega
     have hyes : I1 N col = true := by
      rw [Ai]
      cases ha : pn (edL N N.ends.length).length (edC N col) with
      | false => rfl
      | true =>
       obtain ⟨j, hj, hj2⟩ := me.1 ha;rw [hr j (by omega)] at hj2; cases hj2
     refine ay ?_;refine bi [] (by simp only [ac, pZ, simprocAttr]; exact rfl) ?_;refine ab (dR fun K hK => ?_);(repeat refine eV ?_);refine aa (hK _ (wK [4] ?_));clear hK K;exact aj (al Tryz.results82 (.one (.plain _ _ rfl)) (by decide) (by rw [rr, hyes, d1', h2]; rfl))
  ·have dX := And.intro dX (And.intro @d1 @h2);(repeat refine eV ?_);have dK := And.intro @d1 @h2;refine aa (hK _ (a8 [1, 2, 17] ?_));clear hK K;refine dI ?_ ?_<;>intro hb
   ·refine ab (dR fun K hK => ?_);(repeat refine eV ?_);refine aa (hK _ (wK [4] ?_));clear hK K;exact aj (al Tryz.results82 (.one (.plain _ _ rfl)) (by decide) (by rw [rr, h2, Bool.and_false, Bool.false_and]))
   ·cases hb
 ·have d1 : ((col.length : Int) != (N.ends.length : Int)) = true := by simp [h1]
  have d1' : ((col.length : Int) == (N.ends.length : Int)) = false := by simp [h1]
  have dX := And.intro dX (@d1);refine ab (dR fun K hK => ?_);(repeat refine eV ?_);have dX := And.intro dX (@d1);refine csF ?_;(repeat refine eV ?_);have dX := And.intro dX (@d1);(repeat refine eV ?_);have dK := @d1;refine aa (hK _ (a8 [1, 2, 17] ?_));clear hK K;refine dI ?_ ?_<;>intro hb
  ·refine ab (dR fun K hK => ?_);(repeat refine eV ?_);refine aa (hK _ (wK [4] ?_));clear hK K;exact aj (al Tryz.results82 (.one (.plain _ _ rfl)) (by decide) (by rw [rr, d1', Bool.false_and, Bool.false_and]))
  ·cases hb
theorem oq (f : NF) (N : Net) (o : Bool) (t : TypeId) (col : List Int) (h : bn N = false ∨ rr N col = false) (hcl : col.length ≤ 1000000) : DCalls Tryz.prog 16 [.agg (bw f N), .c (.sl o t 1 (col.map iC))] (fun r => r = [.own false [.sl true 3 1 (([] : List Int).map iC)], .c (.p (.int .i64 0)), .c (.p (.bool false))]) := by
 refine au Tryz.func16 rfl (by rw [Tryz.ntmps16]; simp) fun w0 => ?_;rw [Tryz.ntmps16];have dX := Ld;simp only [ce, bm, Arg.av, bw, cm, ints, ends];refine ab (dR fun K hK => ?_);(repeat refine eV ?_);refine aa (hK _ (wK [1, 2] ?_));clear hK K;refine ab ?_;refine ab (dR fun K hK => ?_);(repeat refine eV ?_);refine cL rfl ⟨rfl, _, rfl⟩ (by omega) (by first | exact qw | exact Mt) (l6 ⟨false, f.t1, f.o2, f.t2, false, f.t3, false, f.t4⟩ N) ?_;rintro _ rfl;(repeat refine eV ?_);obtain h1 | h1 := Bool.eq_false_or_eq_true (bn N)
 ·have h2 : rr N col = false := by rcases h with h | h; (rw [h1] at h; cases h); exact h
  have dX := And.intro dX (@h1);(repeat refine eV ?_);have dX := And.intro dX (@h1);refine cgF rfl rfl ⟨rfl, _, rfl⟩ (by omega) (by first | exact qw | exact Mt) (wt ⟨false, f.t1, f.o2, f.t2, false, f.t3, false, f.t4⟩ N o t col h1 hcl) ?_;rintro _ rfl;(repeat refine eV ?_);have dX := And.intro dX (And.intro @h1 @h2);(repeat refine eV ?_);have dK := And.intro @h1 @h2;refine aa (hK _ (a8 [1, 2, 20] ?_));clear hK K;refine dI ?_ ?_<;>intro hb
  ·refine ab (dR fun K hK => ?_);(repeat refine eV ?_);refine aa (hK _ (wK [4, 5, 6] ?_));clear hK K;refine ev 4 3 1 (by decide) (by simp only [ac, pZ, simprocAttr]) [4, 5, 6] (by simp only [ac, pZ, simprocAttr]; exact rfl) ?_;exact aj (al Tryz.results16 (.three (.own _ _ _ _ rfl rfl (own1 (bd _ []))) (.plain _ _ rfl) (.plain _ _ rfl)) (by decide) rfl)
  ·cases hb
 ·have dX := And.intro dX (@h1);(repeat refine eV ?_);have dX := And.intro dX (@h1);refine csF ?_;(repeat refine eV ?_);have dX := And.intro dX (@h1);(repeat refine eV ?_);have dK := @h1;refine aa (hK _ (a8 [1, 2, 20] ?_));clear hK K;refine dI ?_ ?_<;>intro hb
  ·refine ab (dR fun K hK => ?_);(repeat refine eV ?_);refine aa (hK _ (wK [4, 5, 6] ?_));clear hK K;refine ev 4 3 1 (by decide) (by simp only [ac, pZ, simprocAttr]) [4, 5, 6] (by simp only [ac, pZ, simprocAttr]; exact rfl) ?_;exact aj (al Tryz.results16 (.three (.own _ _ _ _ rfl rfl (own1 (bd _ []))) (.plain _ _ rfl) (.plain _ _ rfl)) (by decide) rfl)
  ·cases hb
theorem Gg {N : Net} {col : List Int} (h : rr N col = true) : col.length = N.ends.length ∧ (∀ v, v < col.length → 0 ≤ gi col v ∧ gi col v ≤ 40) ∧ I1 N col = true := by
 unfold rr at h;rw [Bool.and_eq_true, Bool.and_eq_true] at h;refine ⟨by have := h.1.1; simp at this; omega, fun v hv => ?_, h.2⟩;have h2 := h.1.2;unfold ol at h2;have h3 := List.all_eq_true.1 h2 _ (List.getElem_mem hv);rw [← bo hv] at h3;exact ec.1 h3
theorem pr (f : NF) (N : Net) (o : Bool) (t : TypeId) (col : List Int) (m : Nat) (hg : bn N = true) (hc : rr N col = true) (hm : i7 col = (m : Int)) (hml : m ≤ 41) : DCalls Tryz.prog 16 [.agg (bw f N), .c (.sl o t 1 (col.map iC))] (fun r => r = [.own false [.sl true 3 1 ((bc (cd (dm N) (fm col m) (fm col m).length)).map iC)], .c (.p (.int .i64 m)), .c (.p (.bool true))]) := by
 obtain ⟨hs, hn, hids, hdg⟩ := dz hg;have hdk : ∀ v, (gl N.ends v).length ≤ 262144 := fun v => by have := hdg v; omega
 obtain ⟨hcl, hcb, hcn⟩ := Gg hc;have hs0 : bc (cd (dm N) (fm col 0) (fm col 0).length) = [] := by simp [fm, cd, bc]
 refine au Tryz.func16 rfl (by rw [Tryz.ntmps16]; simp) fun w0 => ?_;rw [Tryz.ntmps16];have dX := Ld;simp only [ce, bm, Arg.av, bw, cm, ints, ends];refine ab (dR fun K hK => ?_);(repeat refine eV ?_);refine aa (hK _ (wK [1, 2] ?_));clear hK K;refine ab ?_;refine ab (dR fun K hK => ?_);(repeat refine eV ?_);refine cL rfl ⟨rfl, _, rfl⟩ (by omega) (by first | exact qw | exact Mt) (l6 ⟨false, f.t1, f.o2, f.t2, false, f.t3, false, f.t4⟩ N) ?_;rintro _ rfl;(repeat refine eV ?_);have dX := And.intro dX (@hg);(repeat refine eV ?_);have dX := And.intro dX (@hg);refine cgF rfl rfl ⟨rfl, _, rfl⟩ (by omega) (by first | exact qw | exact Mt) (wt ⟨false, f.t1, f.o2, f.t2, false, f.t3, false, f.t4⟩ N o t col hg (by omega)) ?_;rintro _ rfl;(repeat refine eV ?_);have dX := And.intro dX (And.intro @hg @hc);(repeat refine eV ?_);have dK := And.intro @hg @hc;refine aa (hK _ (a8 [1, 2, 20] ?_));clear hK K;refine dI ?_ ?_<;>intro hb
 ·cases hb
 ·refine ae ?_;show DW _ _ _ _ _;refine ab (dR fun K hK => ?_);(repeat refine eV ?_);refine aa (hK _ (wK [1, 2, 7] ?_));clear hK K;refine ev 7 3 1 (by decide) (by simp only [ac, pZ, simprocAttr]) [1, 2, 7] (by simp only [ac, pZ, simprocAttr]; exact rfl) ?_;refine ab (dR fun K hK => ?_);(repeat refine eV ?_);refine cL rfl ⟨rfl, _, rfl⟩ (by omega) (by first | exact Yi) (Qe o t col (fun x hx => by obtain ⟨i, hi, rfl⟩ := List.mem_iff_getElem.1 hx; have := hcb i hi; rw [bo hi] at this; omega) (by omega)) ?_;rintro _ rfl;(repeat refine eV ?_);have dK := @hm;refine aa (hK _ (a8 [1, 2, 7, 8] ?_));clear hK K;refine ab ?_;refine ab (dR fun K hK => ?_);(repeat refine eV ?_);refine aa (hK _ (wK [1, 2, 7, 8, 9] ?_));clear hK K;refine af ?_;refine ba (X := Nat) (fun c => c ≤ m) (fun c => [(9, .c (.p (.int .i64 c)))]) (fun c => [((7, 0), ⟨none, [.sl true 3 1 ((bc (cd (dm N) (fm col c) (fm col c).length)).map iC)]⟩)]) (fun c => m - c) 0 (Nat.zero_le _) (by first | rfl | (simp only [ac, pZ, simprocAttr, Int.natCast_zero, hs0] <;> rfl)) ?_;rintro c hcm;intro E hE;simp only [ac, pZ, simprocAttr] at hE;subst hE;have hz0 : fm col c ++ ka col c 0 = fm col c := by rw [ka, List.append_nil]
  have hza : fm col c ++ ka col c col.length = fm col (c + 1) := rfl;refine ab ?_;refine ab (dR fun K hK => ?_);(repeat refine eV ?_);refine aa (hK _ (wK [1, 2, 7, 8, 9, 25] ?_));clear hK K;refine dI ?_ ?_<;>intro hb
  ·have hcm1 : c < m := by simpa using hb
   refine ae ?_;show DW _ _ _ _ _;refine ab (af ?_);refine ab (dR fun K hK => ?_);(repeat refine eV ?_);refine aa (hK _ (wK [1, 2, 7, 8, 9, 28, 29, 30] ?_));clear hK K;refine af ?_;refine ba (X := Nat) (fun v => v ≤ col.length) (fun v => [(30, .c (.p (.int .i64 v)))]) (fun v => [((7, 0), ⟨none, [.sl true 3 1 ((bc (cd (dm N) (fm col c ++ ka col c v) (fm col c ++ ka col c v).length)).map iC)]⟩)]) (fun v => col.length - v) 0 (Nat.zero_le _) (by first | rfl | (simp only [ac, pZ, simprocAttr, Int.natCast_zero, hz0] <;> rfl)) ?_;rintro v hv;intro E hE;simp only [ac, pZ, simprocAttr] at hE;subst hE;refine ab (dR fun K hK => ?_);(repeat refine eV ?_);refine aa (hK _ (wK [1, 2, 7, 8, 9, 28, 29, 30, 31] ?_));clear hK K;refine ab (dI (fun hb => ?_) (fun hb => ?_))
   ·have hv1 : v < col.length := by simpa using hb
    have hvl : v < N.ends.length := by omega
    obtain ⟨l, hl⟩ : ∃ l, l = fm col c ++ ka col c v := ⟨_, rfl⟩;have hlnd : l.Nodup := by rw [hl]; exact Bl _ _ (z8 c)
    have hll : l.length ≤ 1000000 := by
     have h5 := B4 (bad := fun _ _ => false) (ord := l) (Nat.le_refl _)
     have h6 : ∀ x ∈ l, ∃ v : Nat, x = v ∧ v < col.length := fun x hx => by
      rw [hl] at hx
      rcases List.mem_append.1 hx with hx | hx
      ·obtain ⟨v, h1, h2, -⟩ := qq.1 hx; exact ⟨v, h1, h2⟩
      ·obtain ⟨v, h1, h2, -⟩ := j5.1 hx; exact ⟨v, h1, by omega⟩
     exact Og hlnd h6 (by omega)
    have hgl := l7 (bad := dm N) (ord := l) l.length;obtain ⟨S, hS⟩ : ∃ S, S = cd (dm N) l l.length := ⟨_, rfl⟩;have hnb := lh N v S;have hsl : (bc S).length ≤ 1000000 := by rw [dn, hS]; omega
    have hone := R0 (bad := dm N) (l := l) (x := (v : Int));rw [Int.toNat_natCast, ← hS] at hone;rw [← hl, ← hS];refine ae ?_;show DW _ _ _ _ _;refine ab (af ?_);refine ab (dR fun K hK => ?_);(repeat refine eV ?_);refine aa (hK _ (wK [1, 2, 7, 8, 9, 10, 11, 28, 29, 30] ?_));clear hK K
    by_cases hcv : gi col v = c
    ·have d1 : (gi col v == (c : Int)) = true := by simpa using hcv
     have hcs : fm col c ++ ka col c (v + 1) = l ++ [(v : Int)] := by rw [ka, if_pos hcv, ← List.append_assoc, hl]
     have dX := And.intro dX (@d1);refine ab (dR fun K hK => ?_);(repeat refine eV ?_);have dX := And.intro dX (@d1);refine cgF rfl rfl ⟨rfl, _, rfl⟩ (by omega) (by first | exact y6 | exact tq) (Ad ⟨false, f.t1, f.o2, f.t2, false, f.t3, false, f.t4⟩ N v hvl (hdk v)) ?_;rintro _ rfl;(repeat refine eV ?_);obtain h1 | h1 := Bool.eq_false_or_eq_true (b8 N v v)
     ·have hmm : cd (dm N) (fm col c ++ ka col c (v + 1)) (fm col c ++ ka col c (v + 1)).length = S := by rw [hcs, hone, if_pos (by simp [dm, h1])]
      have dX := And.intro dX (And.intro @d1 @h1);(repeat refine eV ?_);have dX := And.intro dX (And.intro @d1 @h1);refine csF ?_;(repeat refine eV ?_);have dX := And.intro dX (And.intro @d1 @h1);(repeat refine eV ?_);have dK := And.intro @d1 @h1;refine aa (hK _ (a8 [1, 2, 7, 8, 9, 10, 28, 29, 30, 49] ?_));clear hK K;refine dI ?_ ?_<;>intro hb
      ·cases hb
      ·refine ae ?_;show DW _ _ _ _ _;refine dR fun K hK => ?_;(repeat refine eV ?_);have dK := And.intro @bq @hmm;refine aa (hK _ ?_);clear hK K;show ∃ x, _ ∧ _ ∧ Weak _ _;refine ⟨v + 1, ?_, ?_, a7 [1, 2, 7, 8, 9, 28, 29, 30]⟩
       ·omega
       ·omega
     ·have dX := And.intro dX (And.intro @d1 @h1);(repeat refine eV ?_);have dX := And.intro dX (And.intro @d1 @h1);refine cgF rfl rfl ⟨rfl, _, rfl⟩ (by omega) (by first | exact y6 | exact tq) (nw ⟨false, f.t1, f.o2, f.t2, false, f.t3, false, f.t4⟩ N v true 3 (bc S) hvl (hdk v)) ?_;rintro _ rfl;(repeat refine eV ?_);obtain h2 | h2 := Bool.eq_false_or_eq_true (dq N v S)
      ·have hmm : cd (dm N) (fm col c ++ ka col c (v + 1)) (fm col c ++ ka col c (v + 1)).length = S := by rw [hcs, hone, if_pos (by simp [dm, h1, h2])]
       have dX := And.intro dX (And.intro @d1 (And.intro @h1 (And.intro @hnb @h2)));(repeat refine eV ?_);have dK := And.intro @d1 (And.intro @h1 (And.intro @hnb @h2));refine aa (hK _ (a8 [1, 2, 7, 8, 9, 10, 28, 29, 30, 49] ?_));clear hK K;refine dI ?_ ?_<;>intro hb
       ·cases hb
       ·refine ae ?_;show DW _ _ _ _ _;refine dR fun K hK => ?_;(repeat refine eV ?_);have dK := And.intro @bq @hmm;refine aa (hK _ ?_);clear hK K;show ∃ x, _ ∧ _ ∧ Weak _ _;refine ⟨v + 1, ?_, ?_, a7 [1, 2, 7, 8, 9, 28, 29, 30]⟩
        ·omega
        ·omega
      ·have hmm : cd (dm N) (fm col c ++ ka col c (v + 1)) (fm col c ++ ka col c (v + 1)).length = S ++ [(v : Int)] := by rw [hcs, hone, if_neg (by simp [dm, h1, h2])]
       have hnd : (S ++ [(v : Int)]).Nodup := by
        rw [← hmm];exact T0 (Bl _ _ (z8 c))
       have hq : o8 (bc S) v = bc (cd (dm N) (fm col c ++ ka col c (v + 1)) (fm col c ++ ka col c (v + 1)).length) := by rw [hmm]; exact (qf hnd).symm
       have dX := And.intro dX (And.intro @d1 (And.intro @h1 (And.intro @hnb @h2)));(repeat refine eV ?_);have dK := And.intro @d1 (And.intro @h1 (And.intro @hnb @h2));refine aa (hK _ (a8 [1, 2, 7, 8, 9, 10, 28, 29, 30, 49] ?_));clear hK K;refine dI ?_ ?_<;>intro hb
       ·refine dR fun K hK => ?_;(repeat refine eV ?_);refine gmF (hag := fun _ => rfl) rfl ⟨rfl, _, rfl⟩ (by omega) (by first | exact Rg) (Ft 3 (bc S) v hsl rfl) ?_;rintro _ rfl;refine Ih ?_;(repeat refine eV ?_);have dK := @hq;refine aa (hK _ (a8 [1, 2, 7, 8, 9, 28, 29, 30] ?_));clear hK K;refine dR fun K hK => ?_;(repeat refine eV ?_);have dK := @bq;refine aa (hK _ ?_);clear hK K;show ∃ x, _ ∧ _ ∧ Weak _ _;refine ⟨v + 1, ?_, ?_, a7 [1, 2, 7, 8, 9, 28, 29, 30]⟩
        ·omega
        ·omega
       ·cases hb
    ·have d1 : (gi col v == (c : Int)) = false := by simpa using hcv
     have hmm : cd (dm N) (fm col c ++ ka col c (v + 1)) (fm col c ++ ka col c (v + 1)).length = S := by rw [ka, if_neg hcv, ← hl, hS]
     have dX := And.intro dX (@d1);refine ab (dR fun K hK => ?_);(repeat refine eV ?_);have dX := And.intro dX (@d1);refine csF ?_;(repeat refine eV ?_);have dX := And.intro dX (@d1);(repeat refine eV ?_);have dX := And.intro dX (@d1);refine csF ?_;(repeat refine eV ?_);have dX := And.intro dX (@d1);(repeat refine eV ?_);have dK := @d1;refine aa (hK _ (a8 [1, 2, 7, 8, 9, 10, 28, 29, 30, 49] ?_));clear hK K;refine dI ?_ ?_<;>intro hb
     ·cases hb
     ·refine ae ?_;show DW _ _ _ _ _;refine dR fun K hK => ?_;(repeat refine eV ?_);have dK := And.intro @bq @hmm;refine aa (hK _ ?_);clear hK K;show ∃ x, _ ∧ _ ∧ Weak _ _;refine ⟨v + 1, ?_, ?_, a7 [1, 2, 7, 8, 9, 28, 29, 30]⟩
      ·omega
      ·omega
   ·have hv2 : v = col.length := by
     have : ¬ v < col.length := by simpa using hb
     omega
    rw [hv2, hza];refine ay ?_;refine bi [1, 2, 7, 8, 9] (by simp only [ac, pZ, simprocAttr]; exact rfl) ?_;refine dR fun K hK => ?_;(repeat refine eV ?_);have dK := @bq;refine aa (hK _ ?_);clear hK K;show ∃ x, _ ∧ _ ∧ Weak _ _;refine ⟨c + 1, ?_, ?_, a7 [1, 2, 7, 8, 9]⟩
    ·omega
    ·omega
  ·have hcm2 : c = m := by
    have : ¬ c < m := by simpa using hb
    omega
   rw [hcm2];refine ay ?_;refine bi [7, 8] (by simp only [ac, pZ, simprocAttr]; exact rfl) ?_;refine ab (dR fun K hK => ?_);(repeat refine eV ?_);refine aa (hK _ (wK [4, 5, 6] ?_));clear hK K;exact aj (al Tryz.results16 (.three (.own _ _ _ _ rfl rfl (own1 (bd _ _))) (.plain _ _ rfl) (.plain _ _ rfl)) (by decide) rfl)
end
section
set_option maxHeartbeats 0
set_option maxRecDepth 8000
open Go Go.RowKit
def Zb (r : Res) : Prop := ∃ N, r = [.agg (netZ N)] ∧ Tame N
def NlP (rs : Res) : Prop := ∃ (N : Net) (ps : List Int), rs = [.agg (netZ N), .own false [.sl true 3 1 (ps.map iC)]] ∧ Tame N ∧ ps.length ≤ 64
def ShP (rs : Res) : Prop := ∃ (ps : List Int), rs = [.own false [.sl true 3 1 (ps.map iC)]] ∧ ps.length ≤ 64
def zBIpd1 := PLift.up (And.intro an (And.intro U1 (And.intro vx (And.intro bh (And.intro U2 (And.intro @be (And.intro a6 (And.intro am (And.intro aq (And.intro @netO.eq_1 (And.intro @netZ.eq_1 (And.intro @if_pos.{1} (And.intro @ax @trivial)))))))))))))
theorem Lc : type_of% zBIpd1.down := zBIpd1.down
theorem Dh (bs : List Int) (hby : d9 bs) : dv Tryz.prog 54 [.c (gf bs)] Zb := by
 refine om (by simp [Arg.isIo]) Tryz.func54 rfl (by rw [Tryz.ntmps54]; simp) fun w0 => ?_;rw [Tryz.ntmps54];have dX := Lc;simp only [ce, bm, Arg.av, gf];refine ab (dR fun K hK => ?_);(repeat refine eV ?_);refine aa (hK _ (wK [0, 2] ?_));clear hK K;refine ab (dR fun K hK => ?_);(repeat refine eV ?_);refine aa (hK _ (wK [2, 3, 6] ?_));clear hK K;refine ab ?_;refine ab (dR fun K hK => ?_);(repeat refine eV ?_);refine mi rfl ⟨rfl, _, rfl⟩ (by omega) (by first | exact pw) (qr bs 0 0 4 _ hby (Nat.zero_le 0) (by omega)) ?_;rintro _ ⟨p1, s1, _, rfl, hp1, b1, rfl⟩;refine ioF ?_;(repeat refine eV ?_);refine aa (hK _ (wK [2, 3, 6, 8] ?_));clear hK K;refine dI ?_ ?_<;>intro hb
 ·refine ab (dR fun K hK => ?_);(repeat refine eV ?_);refine vf rfl ⟨rfl, _, rfl⟩ (by omega) (by first | exact Rf) (Ct bs p1 s1 8 _ _ rfl hby hp1 (by omega) (by omega) (by omega)) ?_;rintro _ ⟨p2, s2, _, rfl, hp2, N2, rfl, ht2⟩;refine ioF ?_;(repeat refine eV ?_);have dK := @netO.eq_1;refine aa (hK _ (a8 [2, 6] ?_));clear hK K;refine yg 2 [2, 6] (by simp only [ac, pZ, simprocAttr]; exact rfl) ?_;exact aj (jw Tryz.results54 (.one (.cell 2 _ _ _ _ rfl rfl an rfl rfl rfl)) (by decide) ⟨N2, rfl, ht2⟩)
 ·refine ae ?_;show DW _ _ _ _ _;refine ab (dR fun K hK => ?_);(repeat refine eV ?_);refine vf rfl ⟨rfl, _, rfl⟩ (by omega) (by first | exact Fq | exact Bw | exact Fr) (U7 bs p1 s1 8 _ _ rfl hby hp1 (by omega) (by omega) (by omega)) ?_;rintro _ ⟨p3, s3, _, rfl, hp3, N3, rfl, ht3⟩;refine ioF ?_;(repeat refine eV ?_);refine Jb 14 (by simp only [ac, pZ, simprocAttr]; exact rfl) ?_;refine vf rfl ⟨rfl, _, rfl⟩ (by omega) (by first | exact Fq | exact Bw | exact Fr) (xg bs p3 s3 NFz N3 _ hby hp3 (by omega) (ht3.tame (by omega) (by omega)).small) ?_;rintro _ ⟨p4, s4, _, rfl, hp4, N4, rfl, ht4⟩;refine ioF ?_;(repeat refine eV ?_);have hd4 : Drawn 40 500 N4 := (ht3.mono (by omega) (by omega)).withIds ht4;refine Jb 15 (by simp only [ac, pZ, simprocAttr]; exact rfl) ?_;refine vf rfl ⟨rfl, _, rfl⟩ (by omega) (by first | exact Fq | exact Bw | exact Fr) (H8 bs p4 s4 NFz N4 _ hby hp4 (by omega) hd4) ?_;rintro _ ⟨p5, s5, _, rfl, hp5, N5, rfl, ht5⟩;refine ioF ?_;(repeat refine eV ?_);have dK := @netO.eq_1;refine aa (hK _ (a8 [2, 6] ?_));clear hK K;refine yg 2 [2, 6] (by simp only [ac, pZ, simprocAttr]; exact rfl) ?_;exact aj (jw Tryz.results54 (.one (.cell 2 _ _ _ _ rfl rfl an rfl rfl rfl)) (by decide) ⟨N5, rfl, ht5⟩)
theorem pu (bs : List Int) (hby : d9 bs) : dv Tryz.prog 8 [.c (gf bs)] Zb := by
 refine om (by simp [Arg.isIo]) Tryz.func8 rfl (by rw [Tryz.ntmps8]; simp) fun w0 => ?_;rw [Tryz.ntmps8];have dX := Lc;simp only [ce, bm, Arg.av, gf];refine ab (dR fun K hK => ?_);(repeat refine eV ?_);refine aa (hK _ (wK [0, 2] ?_));clear hK K;refine ab (dR fun K hK => ?_);(repeat refine eV ?_);refine caF rfl ⟨rfl, _, rfl⟩ (by omega) (by first | exact Ym) (Dh bs hby) ?_;rintro _ ⟨N1, rfl, ht1⟩;(repeat refine eV ?_);refine aa (hK _ (wK [2] ?_));clear hK K;exact aj (jw Tryz.results8 (.one (.cell 2 _ _ _ _ rfl rfl an rfl rfl rfl)) (by decide) ⟨N1, rfl, ht1⟩)
def nodesSt10 : Nat → Stat
 | 0 => ⟨[5], [], [], [32], [], []⟩
 | 1 => ⟨[0], [], [], [33], [], []⟩
 | 2 => ⟨[3], [(3, 1)], [], [34], [], []⟩
 | 3 => ⟨[34], [(3, 1)], [], [35], [], []⟩
 | 4 => ⟨[35], [], [], [36], [], []⟩
 | 5 => ⟨[5], [], [], [37], [], []⟩
 | 6 => ⟨[5], [], [], [38], [], []⟩
 | 7 => ⟨[38], [(5, 1)], [], [39], [], []⟩
 | 8 => ⟨[39], [], [], [40], [], []⟩
 | 9 => ⟨[37, 40], [(5, 1)], [], [41], [], []⟩
 | 10 => ⟨[41], [(5, 2)], [], [42], [], []⟩
 | 11 => ⟨[36, 42], [], [], [43], [], []⟩
 | 12 => ⟨[33, 43], [(43, 1)], [47, 43], [44], [(47, 1)], []⟩
 | 13 => ⟨[32], [(5, 1)], [], [45], [], []⟩
 | 14 => ⟨[45, 44], [(5, 2)], [], [], [(5, 2)], []⟩
 | _ => ⟨[], [], [], [], [], []⟩
theorem Mp (bs : List Int) (p : Nat) (s : Int) (f : NF) (N : Net) (B : Nat) (hby : d9 bs) (hp : p ≤ B) (hB : B + 5000 ≤ 4611686018427387900) (ht : Tame N) : dv Tryz.prog 86 [.io 70 (curC bs p s), .agg (bw f N)] (CurO bs (B + 5000) ShP) := by
 have hlen := ht.len;refine gw Tryz.func86 rfl (by rw [Tryz.ntmps86]; simp) fun w0 => ?_;rw [Tryz.ntmps86];have dX := Lc;simp only [ky, bm, Arg.av, curC, bw, cm, ints, ends];refine ab (dR fun K hK => ?_);(repeat refine eV ?_);refine aa (hK _ (wK [0, 3, 47] ?_));clear hK K;refine ab (dR fun K hK => ?_);(repeat refine eV ?_);refine aa (hK _ (wK [0, 3, 5, 47] ?_));clear hK K;refine ev 5 3 1 (by decide) (by simp only [ac, pZ, simprocAttr]) [0, 3, 5, 47] (by simp only [ac, pZ, simprocAttr]; exact rfl) ?_;refine ab (dR fun K hK => ?_);(repeat refine eV ?_);refine mi rfl ⟨rfl, _, rfl⟩ (by omega) (by first | exact gv) (f9 bs p s 4 _ hby hp (by omega)) ?_;rintro _ ⟨p1, s1, _, rfl, hp1, x1, rfl, hx1⟩;refine ioF ?_;(repeat refine eV ?_);have hx1b : 0 ≤ x1 ∧ x1 < 4 := ⟨hx1.1, by rcases hx1.2.2 with h | h <;> omega⟩;refine aa (hK _ (wK [0, 3, 5, 6, 47] ?_));clear hK K;refine ab ?_;refine ab (dR fun K hK => ?_);(repeat refine eV ?_);refine aa (hK _ (wK [0, 3, 5, 6, 13, 14, 47] ?_));clear hK K;refine af ?_;refine ba (X := List Int × Nat × Nat × Int) (fun x => x.1.length ≤ x.2.1 ∧ x.2.1 ≤ N.ends.length ∧ x.2.2.1 ≤ B + 2 + 2 * x.2.1) (fun x => [(14, .c (.p (.int .i64 x.2.1)))]) (fun x => [((5, 0), ⟨none, [.sl true 3 1 (x.1.map iC)]⟩), ((47, 0), ⟨some 70, [.sl false 5 1 (bs.map bC), .p (.int .i64 x.2.2.1), .p (.int .u64 x.2.2.2)]⟩)]) (fun x => N.ends.length - x.2.1) ([], 0, p1, s1) ⟨Nat.le_refl _, Nat.zero_le _, by simpa using hp1⟩ (by first | rfl | (simp only [ac, pZ, simprocAttr, Int.natCast_zero, List.map_nil] <;> rfl)) ?_;rintro ⟨l, k, p2, s2⟩ ⟨hll, hk, hp2⟩;intro E hE;simp only [ac, pZ, simprocAttr] at hE;subst hE;dsimp only at hll hk hp2 ⊢;refine ab (dR fun K hK => ?_);(repeat refine eV ?_);refine aa (hK _ (wK [0, 3, 5, 6, 13, 14, 15, 47] ?_));clear hK K;refine ab (dI (fun hb => ?_) (fun hb => ?_))
 ·have hk1 : k < N.ends.length := by simpa using hb
  refine ae ?_;show DW _ _ _ _ _;refine ab (af ?_);refine ab (dR fun K hK => ?_);(repeat refine eV ?_);refine aa (hK _ (wK [0, 3, 5, 6, 7, 13, 14, 47] ?_));clear hK K;refine ab (dR fun K hK => ?_);(repeat refine eV ?_);refine mi rfl ⟨rfl, _, rfl⟩ (by omega) (by first | exact pw) (qr bs p2 s2 (1 + x1) _ hby hp2 (by omega)) ?_;rintro _ ⟨p3, s3, _, rfl, hp3, b3, rfl⟩;refine ioF ?_;(repeat refine eV ?_);refine aa (hK _ (wK [0, 3, 5, 6, 7, 13, 14, 19, 47] ?_));clear hK K;refine dI ?_ ?_<;>intro hb
  ·refine dR fun K hK => ?_;(repeat refine eV ?_);have dK := @f8;refine aa (hK _ (a8 [0, 3, 5, 6, 13, 14, 47] ?_));clear hK K;refine dR fun K hK => ?_;(repeat refine eV ?_);have dK := @bq;refine aa (hK _ ?_);clear hK K;show ∃ x, _ ∧ _ ∧ Weak _ _;refine ⟨(l ++ [(k : Int)], k + 1, p3, s3), ?_, ?_, a7 [0, 3, 5, 6, 13, 14, 47]⟩
   ·exact ⟨by simp; omega, hk1, by dsimp only; omega⟩
   ·dsimp only; omega
  ·refine ae ?_;show DW _ _ _ _ _;refine dR fun K hK => ?_;(repeat refine eV ?_);have dK := @bq;refine aa (hK _ ?_);clear hK K;show ∃ x, _ ∧ _ ∧ Weak _ _;refine ⟨(l, k + 1, p3, s3), ?_, ?_, a7 [0, 3, 5, 6, 13, 14, 47]⟩
   ·exact ⟨by dsimp only; omega, hk1, by dsimp only; omega⟩
   ·dsimp only; omega
 ·have hk2 : k = N.ends.length := by
   have : ¬ k < N.ends.length := by simpa using hb
   omega
  refine ay ?_;refine bi [0, 3, 5, 47] (by simp only [ac, pZ, simprocAttr]; exact rfl) ?_;refine mw (X := List Int × Nat × Int) (fun x => x.1.length ≤ 64 ∧ x.2.1 ≤ B + 4000) (fun x => mkE 47 [(5, .own false 1), (47, .dead)] [((5, 0), ⟨none, [.sl true 3 1 (x.1.map iC)]⟩), ((47, 0), ⟨some 70, [.sl false 5 1 (bs.map bC), .p (.int .i64 x.2.1), .p (.int .u64 x.2.2)]⟩)]) ?_ ?_
  ·obtain hpos | hpos := Bool.eq_false_or_eq_true (decide ((l.length : Int) > 0))
   ·have hvp : 0 < l.length := by have := of_decide_eq_true hpos; omega
    have hlc : (l.length : Int) - 1 = ((l.length - 1 : Nat) : Int) := by omega
    have dX := And.intro dX (@hpos);refine ab (dR fun K hK => ?_);(repeat refine eV ?_);have dX := And.intro dX (@hpos);refine Xc rfl rfl ⟨rfl, _, rfl⟩ (by omega) (by first | exact pw) (qr bs p2 s2 24 _ hby hp2 (by omega)) ?_;rintro _ ⟨p4, s4, _, rfl, hp4, b4, rfl⟩;refine ioF ?_;(repeat refine eV ?_);have dK := @hpos;refine aa (hK _ (a8 [0, 3, 5, 31, 47] ?_));clear hK K;refine dI ?_ ?_<;>intro hb
    ·have dX := And.intro dX (And.intro @nodesSt10.eq_def (And.intro @hlc (And.intro @Int.toNat_natCast @ao)));refine gy nodesSt10 (fun j r => match j with | 12 => CurO bs (B + 1000 + 2) (fun rs => ∃ x, rs = [.c (.p (.int .i64 x))] ∧ vg [-1, (N.ends.length : Int), gi l (l.length - 1)] x) r | _ => True) fun K hK => ?_;(repeat refine dV ?_);have dX := And.intro dX (And.intro @nodesSt10.eq_def (And.intro @hlc (And.intro @Int.toNat_natCast @ao)));refine uz rfl ⟨rfl, _, rfl⟩ (by omega) (by first | exact D2) (sw bs p4 s4 true 3 [-1, (N.ends.length : Int), gi l (l.length - 1)] (B + 1000) hby (by omega) (by omega) (by simp) (by simp)) (CurO.ex ⟨_, _, rfl, 0, by simp, rfl⟩) ?_;rintro _ ⟨p5, s5, _, rfl, hp5, x5, rfl, hx5⟩;refine qb ?_;(repeat refine dV ?_);refine b0 (hK _ ?_);clear hK K;show ∃ x, _ ∧ Weak _ _;refine ⟨(l.set 0 x5, p5, s5), ?_, (co _ [5, 47]).trans (Weak.of_eq (by simp only [ac, pZ, simprocAttr , ao, C5] <;> exact rfl))⟩;exact ⟨by rw [List.length_set]; omega, by dsimp only; omega⟩
    ·refine ae ?_;show ∃ x, _ ∧ Weak _ _;refine ⟨(l, p4, s4), ?_, (co _ [5, 47]).trans (Weak.of_eq (by simp only [ac, pZ, simprocAttr] <;> exact rfl))⟩;exact ⟨by dsimp only; omega, by dsimp only; omega⟩
   ·have dX := And.intro dX (@hpos);refine ab (dR fun K hK => ?_);(repeat refine eV ?_);have dX := And.intro dX (@hpos);refine csF ?_;(repeat refine eV ?_);have dK := @hpos;refine aa (hK _ (a8 [5, 31, 47] ?_));clear hK K;refine dI ?_ ?_<;>intro hb
    ·cases hb
    ·refine ae ?_;show ∃ x, _ ∧ Weak _ _;refine ⟨(l, p2, s2), ?_, (co _ [5, 47]).trans (Weak.of_eq (by simp only [ac, pZ, simprocAttr] <;> exact rfl))⟩;exact ⟨by dsimp only; omega, by dsimp only; omega⟩
  ·rintro ⟨v2, p5, s5⟩ ⟨hv2, hp5⟩;dsimp only at hv2 hp5 ⊢;refine ab (dR fun K hK => ?_);(repeat refine eV ?_);refine aa (hK _ (wK [4, 47] ?_));clear hK K;exact aj (ck Tryz.results86 Tryz.ntmps86 (.one (.re _ _ (.own _ _ _ _ rfl rfl (own1 (bd _ _))))) (by decide) (by decide) rfl rfl rfl ⟨p5, s5, _, rfl, by omega, v2, rfl, hv2⟩)
end
section
set_option maxHeartbeats 0
set_option maxRecDepth 8000
open Go Go.RowKit
def drawMaxSt4 : Nat → Stat
 | 0 => ⟨[5], [(5, 1)], [5], [18], [], []⟩
 | 1 => ⟨[5], [(5, 1)], [5], [19], [], []⟩
 | 2 => ⟨[4], [], [], [20], [], []⟩
 | 3 => ⟨[5], [(5, 1)], [], [21], [], []⟩
 | 4 => ⟨[21], [(5, 1)], [], [22], [], []⟩
 | 5 => ⟨[22], [], [], [23], [], []⟩
 | 6 => ⟨[20, 23], [], [8], [24], [(8, 1)], []⟩
 | 7 => ⟨[19, 24], [(24, 1)], [24], [25], [], []⟩
 | 8 => ⟨[2, 18], [(2, 1)], [], [], [(2, 1)], []⟩
 | 9 => ⟨[25], [], [25], [3], [(25, 1)], []⟩
 | _ => ⟨[], [], [], [], [], []⟩
def drawMaxSt5 : Nat → Stat
 | 0 => ⟨[5], [(5, 1)], [5], [26], [], []⟩
 | 1 => ⟨[4], [], [], [27], [], []⟩
 | 2 => ⟨[5], [(5, 1)], [5], [28], [], []⟩
 | 3 => ⟨[27, 28], [], [8], [29], [(8, 1)], []⟩
 | 4 => ⟨[2, 26], [(2, 1)], [], [], [(2, 1)], []⟩
 | 5 => ⟨[29], [], [29], [3], [(29, 1)], []⟩
 | _ => ⟨[], [], [], [], [], []⟩
theorem Kg (N : Net) (xs : List Int) (hg : bn N = true) (hp : xs.Perm (ez N.ends.length)) : DCalls Tryz.prog 84 [.agg (netZ N), .c (.sl true 3 1 (xs.map iC))] ShP :=
 (Kh NFz N true 3 xs hg (uj hp)).mono fun r h => ⟨_, h, by rw [dn]; have := l7 (bad := dm N) (ord := xs) N.ends.length; have := (dz hg).2.1; omega⟩
def zBIpe1 := PLift.up (And.intro an (And.intro U1 (And.intro vx (And.intro bh (And.intro U2 (And.intro @be (And.intro a6 (And.intro am (And.intro aq (And.intro @netO.eq_1 (And.intro @netZ.eq_1 (And.intro @if_pos.{1} (And.intro @ax @trivial)))))))))))))
theorem R9 : type_of% zBIpe1.down := zBIpe1.down
theorem mf (bs : List Int) (hby : d9 bs) : dv Tryz.prog 18 [.c (gf bs)] NlP := by
 refine om (by simp [Arg.isIo]) Tryz.func18 rfl (by rw [Tryz.ntmps18]; simp) fun w0 => ?_;rw [Tryz.ntmps18];have dX := R9;simp only [ce, bm, Arg.av, gf];refine ab (dR fun K hK => ?_);(repeat refine eV ?_);refine aa (hK _ (wK [0, 2] ?_));clear hK K;refine ab (dR fun K hK => ?_);(repeat refine eV ?_);refine aa (hK _ (wK [2, 4, 8] ?_));clear hK K;refine ab (dR fun K hK => ?_);(repeat refine eV ?_);refine vf rfl ⟨rfl, _, rfl⟩ (by omega) (by first | exact Rf) (Ct bs 0 0 9 _ _ rfl hby (Nat.zero_le 0) (by omega) (by omega) (by omega)) ?_;rintro _ ⟨p1, s1, _, rfl, hp1, N1, rfl, ht1⟩;refine ioF ?_;(repeat refine eV ?_);have dK := @netO.eq_1;refine aa (hK _ (a8 [2, 4, 5, 8] ?_));clear hK K;refine yg 5 [2, 4, 5, 8] (by simp only [ac, pZ, simprocAttr]; exact rfl) ?_;have hl1 := ht1.len;refine ab ?_;refine ab (dR fun K hK => ?_);(repeat refine eV ?_);refine cL rfl ⟨rfl, _, rfl⟩ (by omega) (by first | exact qw | exact pw) (l6 NFz N1) ?_;rintro _ rfl;(repeat refine eV ?_);obtain hg | hg := Bool.eq_false_or_eq_true (bn N1)
 ·have dX := And.intro dX (@hg);(repeat refine eV ?_);have dX := And.intro dX (@hg);refine Xc rfl rfl ⟨rfl, _, rfl⟩ (by omega) (by first | exact qw | exact pw) (qr bs p1 s1 3 _ hby hp1 (by omega)) ?_;rintro _ ⟨p2, s2, _, rfl, hp2, b2, rfl⟩;refine ioF ?_;(repeat refine eV ?_);have dX := And.intro dX (@hg);(repeat refine eV ?_);have dK := @hg;refine aa (hK _ (a8 [2, 4, 5, 8, 17] ?_));clear hK K;refine dI ?_ ?_<;>intro hb
  ·have dX := And.intro dX (@drawMaxSt4.eq_def);refine ab (gy drawMaxSt4 (fun j r => match j with | 6 => CurO bs (600000000000000000 + 2 * N1.ends.length) (fun rs => ∃ xs : List Int, rs = [.own false [.sl true 3 1 (xs.map iC)]] ∧ xs.Perm (ez N1.ends.length)) r | 7 => ShP r | _ => True) fun K hK => ?_);(repeat refine dV ?_);have dX := And.intro dX (@drawMaxSt4.eq_def);refine uz rfl ⟨rfl, _, rfl⟩ (by omega) (by first | exact Ic | exact U9) (J6 bs p2 s2 N1.ends.length (600000000000000000) hby (by omega) (by omega) (by omega)) (CurO.ex ⟨_, ez N1.ends.length, rfl, List.Perm.refl _⟩) ?_;rintro _ ⟨p3, s3, _, rfl, hp3, l3, rfl, hl3⟩;refine qb ?_;(repeat refine dV ?_);have dX := And.intro dX (@drawMaxSt4.eq_def);refine dxF rfl ⟨rfl, _, rfl⟩ (by omega) (by first | exact Ic | exact U9) (Kg N1 l3 hg hl3) rfl (⟨_, [], rfl, by simp⟩) ?_;rintro _ ⟨ps, rfl, hps⟩;(repeat refine dV ?_);refine b0 (hK _ (wK [2, 3, 8] ?_));clear hK K;exact aj (jw Tryz.results18 (.two (.cell 2 _ _ _ _ rfl rfl an rfl rfl rfl) (.re _ _ (.own _ _ _ _ rfl rfl (own1 (bd _ _))))) (by decide) ⟨N1, ps, rfl, ht1, hps⟩)
  ·refine ae ?_;show DW _ _ _ _ _;have dX := And.intro dX (@drawMaxSt5.eq_def);refine ab (gy drawMaxSt5 (fun j r => match j with | 3 => CurO bs (600000000000000000 + 5000) ShP r | _ => True) fun K hK => ?_);(repeat refine dV ?_);have dX := And.intro dX (@drawMaxSt5.eq_def);refine Ww rfl ⟨rfl, _, rfl⟩ (by omega) (by first | exact U8) (Mp bs p2 s2 NFz N1 (600000000000000000) hby (by omega) (by omega) ht1) (CurO.ex ⟨_, [], rfl, by simp⟩) ?_;rintro _ ⟨p4, s4, _, rfl, hp4, ps, rfl, hps⟩;refine qb ?_;(repeat refine dV ?_);refine b0 (hK _ (wK [2, 3, 8] ?_));clear hK K;exact aj (jw Tryz.results18 (.two (.cell 2 _ _ _ _ rfl rfl an rfl rfl rfl) (.re _ _ (.own _ _ _ _ rfl rfl (own1 (bd _ _))))) (by decide) ⟨N1, ps, rfl, ht1, hps⟩)
 ·have dX := And.intro dX (@hg);(repeat refine eV ?_);have dX := And.intro dX (@hg);refine csF ?_;(repeat refine eV ?_);have dX := And.intro dX (@hg);(repeat refine eV ?_);have dK := @hg;refine aa (hK _ (a8 [2, 4, 5, 8, 17] ?_));clear hK K;refine dI ?_ ?_<;>intro hb
  ·cases hb
  ·refine ae ?_;show DW _ _ _ _ _;have dX := And.intro dX (@drawMaxSt5.eq_def);refine ab (gy drawMaxSt5 (fun j r => match j with | 3 => CurO bs (600000000000000000 + 5000) ShP r | _ => True) fun K hK => ?_);(repeat refine dV ?_);have dX := And.intro dX (@drawMaxSt5.eq_def);refine Ww rfl ⟨rfl, _, rfl⟩ (by omega) (by first | exact U8) (Mp bs p1 s1 NFz N1 (600000000000000000) hby (by omega) (by omega) ht1) (CurO.ex ⟨_, [], rfl, by simp⟩) ?_;rintro _ ⟨p4, s4, _, rfl, hp4, ps, rfl, hps⟩;refine qb ?_;(repeat refine dV ?_);refine b0 (hK _ (wK [2, 3, 8] ?_));clear hK K;exact aj (jw Tryz.results18 (.two (.cell 2 _ _ _ _ rfl rfl an rfl rfl rfl) (.re _ _ (.own _ _ _ _ rfl rfl (own1 (bd _ _))))) (by decide) ⟨N1, ps, rfl, ht1, hps⟩)
def LowC (l : List Int) : Prop := ∀ j, j < l.length → 0 ≤ gi l j ∧ gi l j ≤ 2 * j
theorem LowC.snoc {l : List Int} {k : Int} (h : LowC l) (h0 : 0 ≤ k) (h1 : k ≤ 2 * l.length) : LowC (l ++ [k]) := fun j hj => by
 rw [List.length_append, List.length_singleton] at hj
 by_cases hjl : j < l.length
 ·have h2 := h j hjl;have : gi (l ++ [k]) j = gi l j := by unfold gi; rw [List.getD_eq_getElem?_getD, List.getD_eq_getElem?_getD, List.getElem?_append_left hjl]
  rw [this]; exact h2
 ·obtain rfl : j = l.length := by omega
  have : gi (l ++ [k]) l.length = k := by unfold gi; simp
  rw [this]; exact ⟨h0, h1⟩
theorem mg (bs : List Int) (hby : d9 bs) : dv Tryz.prog 14 [.c (gf bs)] NlP := by
 refine om (by simp [Arg.isIo]) Tryz.func14 rfl (by rw [Tryz.ntmps14]; simp) fun w0 => ?_;rw [Tryz.ntmps14];have dX := R9;simp only [ce, bm, Arg.av, gf];refine ab (dR fun K hK => ?_);(repeat refine eV ?_);refine aa (hK _ (wK [0, 2] ?_));clear hK K;refine ab (dR fun K hK => ?_);(repeat refine eV ?_);refine aa (hK _ (wK [2, 4, 13] ?_));clear hK K;refine ab (dR fun K hK => ?_);(repeat refine eV ?_);refine vf rfl ⟨rfl, _, rfl⟩ (by omega) (by first | exact Rf) (Ct bs 0 0 9 _ _ rfl hby (Nat.zero_le 0) (by omega) (by omega) (by omega)) ?_;rintro _ ⟨p1, s1, _, rfl, hp1, N1, rfl, ht1⟩;refine ioF ?_;(repeat refine eV ?_);have dK := @netO.eq_1;refine aa (hK _ (a8 [2, 4, 5, 13] ?_));clear hK K;refine yg 5 [2, 4, 5, 13] (by simp only [ac, pZ, simprocAttr]; exact rfl) ?_;have hl1 := ht1.len;refine ab (dR fun K hK => ?_);(repeat refine eV ?_);refine aa (hK _ (wK [2, 4, 5, 6, 13] ?_));clear hK K;refine ev 6 3 1 (by decide) (by simp only [ac, pZ, simprocAttr]) [2, 4, 5, 6, 13] (by simp only [ac, pZ, simprocAttr]; exact rfl) ?_;refine mw (X := List Int × Nat × Int) (fun z => z.1.length ≤ 64 ∧ z.2.1 ≤ 700000000000000000) (fun z => mkE 66 [(2, .box), (4, .ptr 13 0 [(0, 0)] 0), (5, .box), (6, .own false 1), (13, .box)] [((2, 0), ⟨some 27, [.p (.slice none 0 0), .p (.slice none 0 0), .p (.slice none 0 0)]⟩), ((5, 0), ⟨some 27, [.sl false 103 1 (N1.ends.map (esC 111)), .sl false 3 1 (N1.ids.map iC), .sl false 3 1 (N1.inputs.map iC)]⟩), ((6, 0), ⟨none, [.sl true 3 1 (z.1.map iC)]⟩), ((13, 0), ⟨some 70, [.sl false 5 1 (bs.map bC), .p (.int .i64 z.2.1), .p (.int .u64 z.2.2)]⟩)]) ?_ ?_
 ·refine ab (dR fun K hK => ?_);(repeat refine eV ?_);refine cL rfl ⟨rfl, _, rfl⟩ (by omega) (by first | exact qw) (l6 NFz N1) ?_;rintro _ rfl;(repeat refine eV ?_);refine aa (hK _ (wK [2, 4, 5, 6, 13, 17] ?_));clear hK K;refine dI ?_ ?_<;>intro hb
  ·have hg : bn N1 = true := hb;obtain ⟨hs, hn, hids, hdg⟩ := dz hg;refine ab (dR fun K hK => ?_);(repeat refine eV ?_);refine aa (hK _ (wK [2, 4, 5, 6, 13, 20, 21] ?_));clear hK K;refine af ?_;refine ba (X := List Int × Nat × Int) (fun x => x.1.length ≤ N1.ends.length ∧ LowC x.1 ∧ x.2.1 ≤ 600000000000000000 + 1000 * x.1.length) (fun x => [(21, .c (.p (.int .i64 x.1.length)))]) (fun x => [((6, 0), ⟨none, [.sl true 3 1 (x.1.map iC)]⟩), ((13, 0), ⟨some 70, [.sl false 5 1 (bs.map bC), .p (.int .i64 x.2.1), .p (.int .u64 x.2.2)]⟩)]) (fun x => N1.ends.length - x.1.length) ([], p1, s1) ⟨Nat.zero_le _, fun j hj => absurd hj (Nat.not_lt_zero j), by simp; omega⟩ (by first | rfl | (simp only [ac, pZ, simprocAttr, Int.natCast_zero, List.map_nil, List.length_nil] <;> rfl)) ?_;rintro ⟨l, p2, s2⟩ ⟨hll, hlc, hp2⟩;intro E hE;simp only [ac, pZ, simprocAttr] at hE;subst hE;dsimp only at hll hlc hp2 ⊢;refine ab (dR fun K hK => ?_);(repeat refine eV ?_);refine aa (hK _ (wK [2, 4, 5, 6, 13, 20, 21, 22] ?_));clear hK K;refine ab (dI (fun hb => ?_) (fun hb => ?_))
   ·have hk1 : l.length < N1.ends.length := by simpa using hb
    have hdv := hdg l.length;refine ae ?_;show DW _ _ _ _ _;refine ab (af ?_);refine ab (dR fun K hK => ?_);(repeat refine eV ?_);refine aa (hK _ (wK [2, 4, 5, 6, 7, 13, 20, 21] ?_));clear hK K;refine ab (dR fun K hK => ?_);(repeat refine eV ?_);refine aa (hK _ (wK [2, 4, 5, 6, 7, 8, 13, 20, 21] ?_));clear hK K;refine ab ?_;refine ab (dR fun K hK => ?_);(repeat refine eV ?_);refine aa (hK _ (wK [2, 4, 5, 6, 7, 8, 13, 20, 21, 24, 25, 26] ?_));clear hK K;refine af ?_;refine ba (X := Int × Nat × Nat × Int) (fun x => x.2.1 ≤ l.length ∧ 0 ≤ x.1 ∧ x.1 ≤ 2 * l.length ∧ x.2.2.1 ≤ 600000000000000000 + 1000 * l.length + 2 * x.2.1) (fun x => [(8, .c (.p (.int .i64 x.1))), (26, .c (.p (.int .i64 x.2.1)))]) (fun x => [((13, 0), ⟨some 70, [.sl false 5 1 (bs.map bC), .p (.int .i64 x.2.2.1), .p (.int .u64 x.2.2.2)]⟩)]) (fun x => l.length - x.2.1) (0, 0, p2, s2) ⟨Nat.zero_le _, by dsimp only; omega, by dsimp only; omega, by dsimp only; omega⟩ (by first | rfl | (simp only [ac, pZ, simprocAttr, Int.natCast_zero] <;> rfl)) ?_;rintro ⟨k, w, p3, s3⟩ ⟨hwl, hk0, hk2, hp3⟩;intro E hE;simp only [ac, pZ, simprocAttr] at hE;subst hE;dsimp only at hwl hk0 hk2 hp3 ⊢;refine ab (dR fun K hK => ?_);(repeat refine eV ?_);refine aa (hK _ (wK [2, 4, 5, 6, 7, 8, 13, 20, 21, 24, 25, 26, 27] ?_));clear hK K;refine ab (dI (fun hb => ?_) (fun hb => ?_))
    ·have hw1 : w < l.length := by simpa using hb
     have hlw := hlc w hw1;refine ae ?_;show DW _ _ _ _ _;refine ab (af ?_);refine ab (dR fun K hK => ?_);(repeat refine eV ?_);refine aa (hK _ (wK [2, 4, 5, 6, 7, 8, 9, 10, 13, 20, 21, 24, 25, 26] ?_));clear hK K;refine ab (dR fun K hK => ?_);(repeat refine eV ?_);refine cL rfl ⟨rfl, _, rfl⟩ (by omega) (by first | exact y5 | exact ms) (qt NFz N1 l.length hk1 (by omega)) ?_;rintro _ rfl;(repeat refine eV ?_);refine cL rfl ⟨rfl, _, rfl⟩ (by omega) (by first | exact y5 | exact ms) (mt true 3 (ik N1 l.length (gl N1.ends l.length).length) w) ?_;rintro _ rfl;(repeat refine eV ?_);obtain h1 | h1 := Bool.eq_false_or_eq_true (dr (ik N1 l.length (gl N1.ends l.length).length) (w : Int))
     ·have dX := And.intro dX (@h1);(repeat refine eV ?_);have dK := @h1;refine aa (hK _ (a8 [2, 4, 5, 6, 7, 8, 10, 13, 20, 21, 24, 25, 26, 40] ?_));clear hK K;refine dI ?_ ?_<;>intro hb
      ·have hkw : gi l w = k := by simpa using hb
       refine dR fun K hK => ?_;(repeat refine eV ?_);refine mi rfl ⟨rfl, _, rfl⟩ (by omega) (by first | exact gv) (f9 bs p3 s3 2 _ hby hp3 (by omega)) ?_;rintro _ ⟨p4, s4, _, rfl, hp4, x4, rfl, hx4⟩;refine ioF ?_;(repeat refine eV ?_);have hx4b : 0 ≤ x4 ∧ x4 < 2 := ⟨hx4.1, by rcases hx4.2.2 with h | h <;> omega⟩;refine aa (hK _ (wK [2, 4, 5, 6, 7, 8, 13, 20, 21, 24, 25, 26] ?_));clear hK K;refine dR fun K hK => ?_;(repeat refine eV ?_);have dK := @bq;refine aa (hK _ ?_);clear hK K;show ∃ x, _ ∧ _ ∧ Weak _ _;refine ⟨(gi l w + 1 + x4, w + 1, p4, s4), ?_, ?_, a7 [2, 4, 5, 6, 7, 8, 13, 20, 21, 24, 25, 26]⟩
       ·exact ⟨hw1, by dsimp only; omega, by dsimp only; omega, by dsimp only; omega⟩
       ·dsimp only; omega
      ·refine ae ?_;show DW _ _ _ _ _;refine dR fun K hK => ?_;(repeat refine eV ?_);have dK := @bq;refine aa (hK _ ?_);clear hK K;show ∃ x, _ ∧ _ ∧ Weak _ _;refine ⟨(k, w + 1, p3, s3), ?_, ?_, a7 [2, 4, 5, 6, 7, 8, 13, 20, 21, 24, 25, 26]⟩
       ·exact ⟨hw1, hk0, hk2, by dsimp only; omega⟩
       ·dsimp only; omega
     ·have dX := And.intro dX (@h1);(repeat refine eV ?_);have dK := @h1;refine aa (hK _ (a8 [2, 4, 5, 6, 7, 8, 10, 13, 20, 21, 24, 25, 26, 40] ?_));clear hK K;refine dI ?_ ?_<;>intro hb
      ·cases hb
      ·refine ae ?_;show DW _ _ _ _ _;refine dR fun K hK => ?_;(repeat refine eV ?_);have dK := @bq;refine aa (hK _ ?_);clear hK K;show ∃ x, _ ∧ _ ∧ Weak _ _;refine ⟨(k, w + 1, p3, s3), ?_, ?_, a7 [2, 4, 5, 6, 7, 8, 13, 20, 21, 24, 25, 26]⟩
       ·exact ⟨hw1, hk0, hk2, by dsimp only; omega⟩
       ·dsimp only; omega
    ·have hw2 : w = l.length := by
      have : ¬ w < l.length := by simpa using hb
      omega
     have hlen : ((l.length : Int) + 1) = (((l ++ [k]).length : Nat) : Int) := by simp
     refine ay ?_;refine bi [2, 4, 5, 6, 7, 8, 13, 20, 21] (by simp only [ac, pZ, simprocAttr]; exact rfl) ?_;refine dR fun K hK => ?_;(repeat refine eV ?_);have dK := @f8;refine aa (hK _ (a8 [2, 4, 5, 6, 13, 20, 21] ?_));clear hK K;refine dR fun K hK => ?_;(repeat refine eV ?_);have dK := @hlen;refine aa (hK _ ?_);clear hK K;show ∃ x, _ ∧ _ ∧ Weak _ _;refine ⟨(l ++ [k], p3, s3), ?_, ?_, a7 [2, 4, 5, 6, 13, 20, 21]⟩
     ·exact ⟨by simp; omega, hlc.snoc hk0 hk2, by simp; omega⟩
     ·simp; omega
   ·have hk2 : l.length = N1.ends.length := by
     have : ¬ l.length < N1.ends.length := by simpa using hb
     omega
    refine ay ?_;show ∃ x, _ ∧ Weak _ _;exact ⟨(l, p2, s2), ⟨by dsimp only; omega, by dsimp only; omega⟩, U0 [2, 4, 5, 6, 13]⟩
  ·refine ae ?_;show ∃ x, _ ∧ Weak _ _;refine ⟨([], p1, s1), ?_, (co _ [2, 4, 5, 6, 13]).trans (Weak.of_eq (by simp only [ac, pZ, simprocAttr] <;> exact rfl))⟩;exact ⟨by simp, by dsimp only; omega⟩
 ·rintro ⟨l, p5, s5⟩ ⟨hl5, hp5⟩;dsimp only at hl5 hp5 ⊢;refine mw (X := List Int × Nat × Int) (fun z => z.1.length ≤ 64 ∧ z.2.1 ≤ 800000000000000000) (fun z => mkE 66 [(2, .box), (5, .box), (6, .own false 1), (13, .box)] [((2, 0), ⟨some 27, [.p (.slice none 0 0), .p (.slice none 0 0), .p (.slice none 0 0)]⟩), ((5, 0), ⟨some 27, [.sl false 103 1 (N1.ends.map (esC 111)), .sl false 3 1 (N1.ids.map iC), .sl false 3 1 (N1.inputs.map iC)]⟩), ((6, 0), ⟨none, [.sl true 3 1 (z.1.map iC)]⟩), ((13, 0), ⟨some 70, [.sl false 5 1 (bs.map bC), .p (.int .i64 z.2.1), .p (.int .u64 z.2.2)]⟩)]) ?_ ?_
  ·obtain hpos | hpos := Bool.eq_false_or_eq_true (decide ((l.length : Int) > 0))
   ·have hvp : 0 < l.length := by have := of_decide_eq_true hpos; omega
    have dX := And.intro dX (@hpos);refine ab (dR fun K hK => ?_);(repeat refine eV ?_);have dX := And.intro dX (@hpos);refine Xc rfl rfl ⟨rfl, _, rfl⟩ (by omega) (by first | exact pw) (qr bs p5 s5 16 _ hby hp5 (by omega)) ?_;rintro _ ⟨p6, s6, _, rfl, hp6, b6, rfl⟩;refine ioF ?_;(repeat refine eV ?_);have dK := @hpos;refine aa (hK _ (a8 [2, 4, 5, 6, 13, 58] ?_));clear hK K;refine dI ?_ ?_<;>intro hb
    ·refine dR fun K hK => ?_;(repeat refine eV ?_);refine mi rfl ⟨rfl, _, rfl⟩ (by omega) (by first | exact D2) (sw bs p6 s6 true 3 [-1, 0, 40, 41] _ hby hp6 (by omega) (by simp) (by simp)) ?_;rintro _ ⟨p7, s7, _, rfl, hp7, x7, rfl, hx7⟩;refine ioF ?_;(repeat refine eV ?_);have dX := And.intro dX (@ao);(repeat refine eV ?_);refine aa (hK _ ?_);clear hK K;show ∃ x, _ ∧ Weak _ _;refine ⟨(l.set 0 x7, p7, s7), ?_, (co _ [2, 5, 6, 13]).trans (Weak.of_eq (by simp only [ac, pZ, simprocAttr , ao, C5] <;> exact rfl))⟩;exact ⟨by rw [List.length_set]; exact hl5, by dsimp only; omega⟩
    ·refine ae ?_;show ∃ x, _ ∧ Weak _ _;refine ⟨(l, p6, s6), ?_, (co _ [2, 5, 6, 13]).trans (Weak.of_eq (by simp only [ac, pZ, simprocAttr] <;> exact rfl))⟩;exact ⟨hl5, by dsimp only; omega⟩
   ·have dX := And.intro dX (@hpos);refine ab (dR fun K hK => ?_);(repeat refine eV ?_);have dX := And.intro dX (@hpos);refine csF ?_;(repeat refine eV ?_);have dK := @hpos;refine aa (hK _ (a8 [2, 5, 6, 13, 58] ?_));clear hK K;refine dI ?_ ?_<;>intro hb
    ·cases hb
    ·refine ae ?_;show ∃ x, _ ∧ Weak _ _;refine ⟨(l, p5, s5), ?_, (co _ [2, 5, 6, 13]).trans (Weak.of_eq (by simp only [ac, pZ, simprocAttr] <;> exact rfl))⟩;exact ⟨hl5, by dsimp only; omega⟩
  ·rintro ⟨v2, p8, s8⟩ ⟨hv2, hp8⟩;dsimp only at hv2 hp8 ⊢;refine ab (dR fun K hK => ?_);(repeat refine eV ?_);refine aa (hK _ (wK [2, 3, 13] ?_));clear hK K;exact aj (jw Tryz.results14 (.two (.cell 2 _ _ _ _ rfl rfl an rfl rfl rfl) (.re _ _ (.own _ _ _ _ rfl rfl (own1 (bd _ _))))) (by decide) ⟨N1, v2, rfl, ht1, hv2⟩)
end
end Go.Proofs.YtolpiolnhgpjjaaGreat
