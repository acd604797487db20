/- Parts of the proof. -/
import Derived.Test.YtolpiolnhgpjjaaGreatCIp4
import Derived.Test.YtolpiolnhgpjjaaGreatCJn50
import Derived.Test.YtolpiolnhgpjjaaGreatCDns
import Derived.Test.YtolpiolnhgpjjaaGreatCDmm
import Derived.Test.YtolpiolnhgpjjaaGreatCLwb
import Derived.Test.YtolpiolnhgpjjaaGreatCJn25
set_option linter.unusedSimpArgs false
set_option linter.unusedVariables false
namespace Go.Proofs.YtolpiolnhgpjjaaGreat
section
set_option maxHeartbeats 0
set_option maxRecDepth 8000
open Go Go.RowKit
def zBIp61 := PLift.up (And.intro an (And.intro aq (And.intro bh (And.intro a6 (And.intro am (And.intro @if_pos.{1} (And.intro @be (And.intro aw (And.intro @bg (And.intro @bf (And.intro @ax (And.intro @ao (And.intro @ap (And.intro dh (And.intro @dk (And.intro @cl (And.intro cz (And.intro c9 @trivial))))))))))))))))))
theorem u7 : type_of% zBIp61.down := zBIp61.down
theorem km (f : NF) (N : Net) (o : Bool) (t : TypeId) (ord : List Int) (hg : bn N = true) (hp : ff ord N.ends.length = true) : DCalls Tryz.prog 64 [.agg (bw f N), .c (.sl o t 1 (ord.map iC))] (fun r => r = [.own false [.sl true 3 1 ((bc (cd (dm N) ord N.ends.length)).map iC)]]) := by
 obtain ⟨hs, hn, hids, hdg⟩ := dz hg;obtain ⟨hol, hoi, hod⟩ := js hp;refine au Tryz.func64 rfl (by rw [Tryz.ntmps64]; simp) fun w0 => ?_;rw [Tryz.ntmps64];have dX := u7;simp only [ce, bm, Arg.av, bw, cm, ints, ends];refine ab (dR fun K hK => ?_);(repeat refine eV ?_);refine aa (hK _ (wK [1, 2] ?_));clear hK K;refine ab (dR fun K hK => ?_);(repeat refine eV ?_);refine aa (hK _ (wK [1, 2, 5] ?_));clear hK K;refine ab ?_;have dX := And.intro dX (@hol);refine ab (dR fun K hK => ?_);(repeat refine eV ?_);have dK := @hol;refine aa (hK _ (a8 [2, 5, 8, 9, 10] ?_));clear hK K;refine af ?_;refine ev 5 3 1 (by decide) (by simp only [ac, pZ, simprocAttr]) [2, 5, 8, 9, 10] (by simp only [ac, pZ, simprocAttr]; exact rfl) ?_;refine ba (X := Nat) (fun k => k ≤ N.ends.length) (fun k => [(10, .c (.p (.int .i64 k)))]) (fun k => [((5, 0), ⟨none, [.sl true 3 1 ((cd (dm N) ord k).map iC)]⟩)]) (fun k => N.ends.length - k) 0 (Nat.zero_le _) (by first | rfl | (simp only [ac, pZ, simprocAttr, Int.natCast_zero, cd] <;> rfl)) ?_;rintro k hk;intro E hE;simp only [ac, pZ, simprocAttr] at hE;subst hE;have hgl := l7 (bad := dm N) (ord := ord) k;refine ab (dR fun K hK => ?_);(repeat refine eV ?_);refine aa (hK _ (wK [2, 5, 8, 9, 10, 11] ?_));clear hK K;refine ab (dI (fun hb => ?_) (fun hb => ?_))
 ·have hk1 : k < N.ends.length := by simpa using hb
  obtain ⟨v, hve⟩ : ∃ v : Nat, gi ord k = v := ⟨(gi ord k).toNat, by have := hoi k hk1; omega⟩;have hvl : v < N.ends.length := by have := hoi k hk1; omega
  have hns : cd (dm N) ord (k + 1) = if dm N v (cd (dm N) ord k) = true then cd (dm N) ord k else cd (dm N) ord k ++ [(v : Int)] := by rw [cd, hve, Int.toNat_natCast]
  obtain ⟨S, hS⟩ : ∃ S, S = cd (dm N) ord k := ⟨_, rfl⟩;rw [← hS] at hns hgl ⊢;refine ae ?_;show DW _ _ _ _ _;refine ab (af ?_);have dX := And.intro dX (@hve);refine ab (dR fun K hK => ?_);(repeat refine eV ?_);have dK := @hve;refine aa (hK _ (a8 [2, 5, 7, 8, 9, 10] ?_));clear hK K;refine ab (dR fun K hK => ?_);(repeat refine eV ?_);refine cL rfl ⟨rfl, _, rfl⟩ (by omega) (by first | exact qv | exact ld) (ry ⟨false, f.t1, f.o2, f.t2, false, f.t3, false, f.t4⟩ N v v hg hvl) ?_;rintro _ rfl;(repeat refine eV ?_);obtain h1 | h1 := Bool.eq_false_or_eq_true (b8 N v v)
  ·have hm : cd (dm N) ord (k + 1) = S := by rw [hns, if_pos (by simp [dm, h1])]
   have dX := And.intro dX (@h1);(repeat refine eV ?_);have dX := And.intro dX (@h1);refine csF ?_;(repeat refine eV ?_);have dX := And.intro dX (@h1);(repeat refine eV ?_);have dK := @h1;refine aa (hK _ (a8 [2, 5, 7, 8, 9, 10, 25] ?_));clear hK K;refine dI ?_ ?_<;>intro hb
   ·cases hb
   ·refine ae ?_;show DW _ _ _ _ _;refine dR fun K hK => ?_;(repeat refine eV ?_);have dK := And.intro @bq @hm;refine aa (hK _ ?_);clear hK K;show ∃ x, _ ∧ _ ∧ Weak _ _;refine ⟨k + 1, ?_, ?_, a7 [2, 5, 8, 9, 10]⟩
    ·omega
    ·omega
  ·have dX := And.intro dX (@h1);(repeat refine eV ?_);have dX := And.intro dX (@h1);refine cgF rfl rfl ⟨rfl, _, rfl⟩ (by omega) (by first | exact qv | exact ld) (yd ⟨false, f.t1, f.o2, f.t2, false, f.t3, false, f.t4⟩ N v true 3 S hg hvl (by omega)) ?_;rintro _ rfl;(repeat refine eV ?_);obtain h2 | h2 := Bool.eq_false_or_eq_true (dq N v S)
   ·have hm : cd (dm N) ord (k + 1) = S := by rw [hns, if_pos (by simp [dm, h1, h2])]
    have dX := And.intro dX (And.intro @h1 @h2);(repeat refine eV ?_);have dK := And.intro @h1 @h2;refine aa (hK _ (a8 [2, 5, 7, 8, 9, 10, 25] ?_));clear hK K;refine dI ?_ ?_<;>intro hb
    ·cases hb
    ·refine ae ?_;show DW _ _ _ _ _;refine dR fun K hK => ?_;(repeat refine eV ?_);have dK := And.intro @bq @hm;refine aa (hK _ ?_);clear hK K;show ∃ x, _ ∧ _ ∧ Weak _ _;refine ⟨k + 1, ?_, ?_, a7 [2, 5, 8, 9, 10]⟩
     ·omega
     ·omega
   ·have hm : cd (dm N) ord (k + 1) = S ++ [(v : Int)] := by rw [hns, if_neg (by simp [dm, h1, h2])]
    have dX := And.intro dX (And.intro @h1 @h2);(repeat refine eV ?_);have dK := And.intro @h1 @h2;refine aa (hK _ (a8 [2, 5, 7, 8, 9, 10, 25] ?_));clear hK K;refine dI ?_ ?_<;>intro hb
    ·refine dR fun K hK => ?_;(repeat refine eV ?_);have dK := @f8;refine aa (hK _ (a8 [2, 5, 8, 9, 10] ?_));clear hK K;refine dR fun K hK => ?_;(repeat refine eV ?_);have dK := And.intro @bq @hm;refine aa (hK _ ?_);clear hK K;show ∃ x, _ ∧ _ ∧ Weak _ _;refine ⟨k + 1, ?_, ?_, a7 [2, 5, 8, 9, 10]⟩
     ·omega
     ·omega
    ·cases hb
 ·have hk2 : k = N.ends.length := by
   have : ¬ k < N.ends.length := by simpa using hb
   omega
  rw [hk2];refine ay ?_;refine bi [5] (by simp only [ac, pZ, simprocAttr]; exact rfl) ?_
  rcases Nat.eq_zero_or_pos (cd (dm N) ord N.ends.length).length with he | hne
  ·have he2 : cd (dm N) ord N.ends.length = [] := List.eq_nil_of_length_eq_zero he;rw [he2];simp only [List.map_nil];refine ab (dR fun K hK => ?_)
   repeat (apply bj; (focus exact rfl); (focus (simp (disch := first | omega | (intros; contradiction)) only [ac, az, pZ, simprocAttr, an, aq, bh, a6, am, if_pos, be, aw, bg, bf, ax, ao, ap, dh, dk, cl, cz, c9 , wu]; exact rfl)))
   refine cu rfl ⟨rfl, _, rfl⟩ (by omega) (by first | exact wu) (by simp (disch := first | omega | (intros; contradiction)) only [ac, az, pZ, simprocAttr, an, aq, bh, a6, am, if_pos, be, aw, bg, bf, ax, ao, ap, dh, dk, cl, cz, c9 , wu] <;> exact rfl) (Nk true 3) ?_;rintro _ rfl
   repeat (apply bj; (focus exact rfl); (focus (simp (disch := first | omega | (intros; contradiction)) only [ac, az, pZ, simprocAttr, an, aq, bh, a6, am, if_pos, be, aw, bg, bf, ax, ao, ap, dh, dk, cl, cz, c9 , wu]; exact rfl)))
   refine aa (hK _ (wK [5] ?_));clear hK K;refine ab (dR fun K hK => ?_);(repeat refine eV ?_);refine aa (hK _ (wK [4] ?_));clear hK K;exact aj (al Tryz.results64 (.one (.own _ _ _ _ rfl rfl (own1 (bd _ [])))) (by decide) (by simp [bc]))
  ·refine ab (M8 (r := 5) (s := 31) (d := 32) (t := 3) (xs := cd (dm N) ord N.ends.length) rfl rfl rfl rfl rfl rfl rfl rfl (by show 31 < 34; omega) (by show 32 < 34; omega) (by omega) (by omega) hne (by have := l7 (bad := dm N) (ord := ord) N.ends.length; omega) ?_);refine bi [5] (by simp only [ac, pZ, simprocAttr]; exact rfl) ?_;refine ab (dR fun K hK => ?_);(repeat refine eV ?_);refine aa (hK _ (wK [4] ?_));clear hK K;exact aj (al Tryz.results64 (.one (.own _ _ _ _ rfl rfl (own1 (bd _ _)))) (by decide) rfl)
theorem tj (f : NF) (N : Net) (o : Bool) (t : TypeId) (ord : List Int) (hg : bn N = true) (hp : ff ord N.ends.length = true) : DCalls Tryz.prog 12 [.agg (bw f N), .c (.sl o t 1 (ord.map iC))] (fun r => r = [.own false [.sl true 3 1 ((bc (cd (dm N) ord N.ends.length)).map iC)], .c (.p (.bool true))]) := by
 obtain ⟨hs, hn, hids, hdg⟩ := dz hg;refine au Tryz.func12 rfl (by rw [Tryz.ntmps12]; simp) fun w0 => ?_;rw [Tryz.ntmps12];have dX := u7;simp only [ce, bm, Arg.av, bw, cm, ints, ends];refine ab (dR fun K hK => ?_);(repeat refine eV ?_);refine aa (hK _ (wK [1, 2] ?_));clear hK K;refine ab ?_;refine ab (dR fun K hK => ?_);(repeat refine eV ?_);refine cL rfl ⟨rfl, _, rfl⟩ (by omega) (by first | exact tr | exact Vd) (jo ⟨false, f.t1, f.o2, f.t2, false, f.t3, false, f.t4⟩ N hids) ?_;rintro _ rfl;(repeat refine eV ?_);have dX := And.intro dX (@hg);(repeat refine eV ?_);have dX := And.intro dX (@hg);refine cgF rfl rfl ⟨rfl, _, rfl⟩ (by omega) (by first | exact tr | exact Vd) (zp o t ord N.ends.length (by omega)) ?_;rintro _ rfl;(repeat refine eV ?_);have dX := And.intro dX (And.intro @hg @hp);(repeat refine eV ?_);have dK := And.intro @hg @hp;refine aa (hK _ (a8 [1, 2, 16] ?_));clear hK K;refine dI ?_ ?_<;>intro hb
 ·cases hb
 ·refine ae ?_;show DW _ _ _ _ _;refine ab (dR fun K hK => ?_);(repeat refine eV ?_);refine cL rfl ⟨rfl, _, rfl⟩ (by omega) (by first | exact kl) (km ⟨false, f.t1, f.o2, f.t2, false, f.t3, false, f.t4⟩ N o t ord hg hp) ?_;rintro _ rfl;(repeat refine eV ?_);refine aa (hK _ (wK [4, 5] ?_));clear hK K;exact aj (al Tryz.results12 (.two (.own _ _ _ _ rfl rfl (own1 (bd _ _))) (.plain _ _ rfl)) (by decide) rfl)
theorem r4 (f : NF) (N : Net) (h : bn N = false ∨ N.ids.length = 0) (hi : N.ids.length ≤ 1000000) : DCalls Tryz.prog 9 [.agg (bw f N)] (fun r => r = [.own false [.sl true 3 1 (([] : List Int).map iC)], .c (.p (.int .i64 0)), .c (.p (.bool false))]) := by
 refine au Tryz.func9 rfl (by rw [Tryz.ntmps9]; simp) fun w0 => ?_;rw [Tryz.ntmps9];have dX := u7;simp only [ce, bm, Arg.av, bw, cm, ints, ends];refine ab (dR fun K hK => ?_);(repeat refine eV ?_);refine aa (hK _ (wK [1] ?_));clear hK K;refine ab ?_;refine ab (dR fun K hK => ?_);(repeat refine eV ?_);refine cL rfl ⟨rfl, _, rfl⟩ (by omega) (by first | exact tr) (jo ⟨false, f.t1, f.o2, f.t2, false, f.t3, false, f.t4⟩ N (by omega)) ?_;rintro _ rfl;(repeat refine eV ?_);obtain h1 | h1 := Bool.eq_false_or_eq_true (bn N)
 ·have h2 : ((N.ids.length : Int) == 0) = true := by
   rcases h with h | h
   ·rw [h1] at h; cases h
   ·simp [h]
  have dX := And.intro dX (And.intro @h1 @h2);(repeat refine eV ?_);have dK := And.intro @h1 @h2;refine aa (hK _ (a8 [1, 15] ?_));clear hK K;refine dI ?_ ?_<;>intro hb
  ·refine ab (dR fun K hK => ?_);(repeat refine eV ?_);refine aa (hK _ (wK [2, 3, 4] ?_));clear hK K;refine ev 2 3 1 (by decide) (by simp only [ac, pZ, simprocAttr]) [2, 3, 4] (by simp only [ac, pZ, simprocAttr]; exact rfl) ?_;exact aj (al Tryz.results9 (.three (.own _ _ _ _ rfl rfl (own1 (bd _ []))) (.plain _ _ rfl) (.plain _ _ rfl)) (by decide) rfl)
  ·cases hb
 ·have dX := And.intro dX (@h1);(repeat refine eV ?_);have dK := @h1;refine aa (hK _ (a8 [1, 15] ?_));clear hK K;refine dI ?_ ?_<;>intro hb
  ·refine ab (dR fun K hK => ?_);(repeat refine eV ?_);refine aa (hK _ (wK [2, 3, 4] ?_));clear hK K;refine ev 2 3 1 (by decide) (by simp only [ac, pZ, simprocAttr]) [2, 3, 4] (by simp only [ac, pZ, simprocAttr]; exact rfl) ?_;exact aj (al Tryz.results9 (.three (.own _ _ _ _ rfl rfl (own1 (bd _ []))) (.plain _ _ rfl) (.plain _ _ rfl)) (by decide) rfl)
  ·cases hb
theorem th (f : NF) (N : Net) (r : Nat) (O : List Int) (J : Nat → Nat → Bool) (rk : Nat → Nat) (hO : O = d7 N N.ends.length) (hJ : J = fun (v w : Nat) => b8 N v (w : Int)) (hrk : rk = rkN N.ids) (hg : bn N = true) (hi : N.ids.length ≠ 0) (hr : cp J rk O r = []) (hlt : ∀ j, j < r → cp J rk O j ≠ []) (hrl : r ≤ 1000) : DCalls Tryz.prog 9 [.agg (bw f N)] (fun res => res = [.own false [.sl true 3 1 ((bc (jp J rk O r)).map iC)], .c (.p (.int .i64 r)), .c (.p (.bool true))]) := by
 obtain ⟨hs, hn, hids, hdg⟩ := dz hg;have hil0 : ((N.ids.length : Int) == 0) = false := by simpa using hi
 refine au Tryz.func9 rfl (by rw [Tryz.ntmps9]; simp) fun w0 => ?_;rw [Tryz.ntmps9];have dX := u7;simp only [ce, bm, Arg.av, bw, cm, ints, ends];refine ab (dR fun K hK => ?_);(repeat refine eV ?_);refine aa (hK _ (wK [1] ?_));clear hK K;refine ab ?_;refine ab (dR fun K hK => ?_);(repeat refine eV ?_);refine cL rfl ⟨rfl, _, rfl⟩ (by omega) (by first | exact tr) (jo ⟨false, f.t1, f.o2, f.t2, false, f.t3, false, f.t4⟩ N (by omega)) ?_;rintro _ rfl;(repeat refine eV ?_);have dX := And.intro dX (And.intro @hg @hil0);(repeat refine eV ?_);have dK := And.intro @hg @hil0;refine aa (hK _ (a8 [1, 15] ?_));clear hK K;refine dI ?_ ?_<;>intro hb
 ·cases hb
 ·refine ae ?_;show DW _ _ _ _ _;refine ab (dR fun K hK => ?_);(repeat refine eV ?_);refine cL rfl ⟨rfl, _, rfl⟩ (by omega) (by first | exact Yl) (ta ⟨false, f.t1, f.o2, f.t2, false, f.t3, false, f.t4⟩ N r O J rk hO hJ hrk hg hi hr hlt hrl) ?_;rintro _ rfl;(repeat refine eV ?_);refine aa (hK _ (wK [5, 6] ?_));clear hK K;refine ab (dR fun K hK => ?_);(repeat refine eV ?_);refine aa (hK _ (wK [2, 3, 4] ?_));clear hK K;exact aj (al Tryz.results9 (.three (.own _ _ _ _ rfl rfl (own1 (bd _ _))) (.plain _ _ rfl) (.plain _ _ rfl)) (by decide) rfl)
def indCol1St1 : Nat → Stat
 | 0 => ⟨[2], [(2, 1)], [], [4], [], []⟩
 | 1 => ⟨[4], [(2, 1)], [], [5], [], []⟩
 | 2 => ⟨[2], [(2, 1)], [], [6], [], []⟩
 | 3 => ⟨[6], [(2, 1)], [], [7], [], []⟩
 | 4 => ⟨[5, 7], [], [], [8], [], []⟩
 | 5 => ⟨[8], [], [], [9], [], []⟩
 | 6 => ⟨[1, 9], [], [], [10], [], []⟩
 | 7 => ⟨[2, 9], [(2, 1)], [], [11], [], []⟩
 | 8 => ⟨[11, 9], [(2, 1)], [], [12], [], []⟩
 | 9 => ⟨[10, 12, 9], [], [], [13], [], []⟩
 | 10 => ⟨[13, 9], [], [], [14], [], []⟩
 | 11 => ⟨[1, 9], [], [], [15], [], []⟩
 | 12 => ⟨[2, 9], [(2, 1)], [], [16], [], []⟩
 | 13 => ⟨[16, 9], [(2, 1)], [], [17], [], []⟩
 | 14 => ⟨[15, 17, 9], [], [], [18], [], []⟩
 | 15 => ⟨[18, 9], [], [], [19], [], []⟩
 | 16 => ⟨[14, 19, 9], [], [], [20], [], []⟩
 | 17 => ⟨[9, 20], [], [], [21], [], []⟩
 | 18 => ⟨[21], [], [], [3], [], []⟩
 | _ => ⟨[], [], [], [], [], []⟩
theorem ob (o : Bool) (t : TypeId) (col : List Int) (v u : Nat) (e2 e4 : Int) (hv : v < col.length) (hu : u < col.length) : DCalls Tryz.prog 77 [.agg (qC ((v : Int), e2, (u : Int), e4)), .rp [.sl o t 1 (col.map iC)]] (fun r => r = [.c (.p (.bool (((v : Int) != (u : Int)) && gi col v == gi col u)))]) := by
 refine au Tryz.func77 rfl (by rw [Tryz.ntmps77]; simp) fun w0 => ?_;rw [Tryz.ntmps77];have dX := u7;simp only [ce, bm, Arg.av, bw, cm, ints, ends, qC];refine ab (dR fun K hK => ?_);(repeat refine eV ?_);refine aa (hK _ (wK [1, 2] ?_));clear hK K;obtain h1 | h1 := Bool.eq_false_or_eq_true ((v : Int) != (u : Int))
 ·have dX := And.intro dX (And.intro @indCol1St1.eq_def (And.intro @h1 @Int.toNat_natCast));refine ab (gy indCol1St1 (fun j r => True) fun K hK => ?_);(repeat refine dV ?_);have dK := @h1;refine b0 (hK _ (a8 [3] ?_));clear hK K;exact aj (al Tryz.results77 (.one (.plain _ _ rfl)) (by decide) (by rw [h1]; rfl))
 ·have dX := And.intro dX (And.intro @indCol1St1.eq_def @h1);refine ab (gy indCol1St1 (fun j r => True) fun K hK => ?_);(repeat refine dV ?_);have dK := @h1;refine b0 (hK _ (a8 [3] ?_));clear hK K;exact aj (al Tryz.results77 (.one (.plain _ _ rfl)) (by decide) (by rw [h1]; rfl))
theorem M7 {N : Net} {col : List Int} (hs : Sym N.ends) (hl : col.length = N.ends.length) (t : TypeId) : ∀ j, j < (edL N N.ends.length).length → DCalls Tryz.prog 77 ([.agg (qC (gq (edL N N.ends.length) j))] ++ [[C.sl false t 1 (col.map iC)]].map .rp) (fun r => r = [.c (.p (.bool (edC N col j)))]) := fun j hj => by
 obtain ⟨v, i, hv, hi, -, he⟩ := xb (List.getElem_mem hj);rw [← zc hj] at he;obtain ⟨q1, q2, q3, q4, q5⟩ := t6 hs hv hi;rw [q5] at he;have hcd : edC N col j = (((v : Int) != ((nd N v i : Nat) : Int)) && gi col v == gi col (nd N v i)) := by unfold edC; rw [he]; rfl
 rw [hcd, he];exact ob false t col v (nd N v i) _ _ (by omega) (by omega)
theorem Vf {n m : Nat} : ((n : Int) != (m : Int)) = !((n : Int) == (m : Int)) := rfl
theorem ni (f : NF) (N : Net) (o : Bool) (t : TypeId) (col : List Int) (h : bn N = false ∨ rr N col = false) (hi : N.ids.length ≤ 1000000) (hcl : col.length ≤ 1000000) : DCalls Tryz.prog 15 [.agg (bw f N), .c (.sl o t 1 (col.map iC))] (fun r => r = [.own false [.sl true 3 1 (([] : List Int).map iC)], .c (.p (.int .i64 0)), .c (.p (.bool false))]) := by
 refine au Tryz.func15 rfl (by rw [Tryz.ntmps15]; simp) fun w0 => ?_;rw [Tryz.ntmps15];have dX := u7;simp only [ce, bm, Arg.av, bw, cm, ints, ends];refine ab (dR fun K hK => ?_);(repeat refine eV ?_);refine aa (hK _ (wK [2, 3] ?_));clear hK K;refine ab ?_;refine ab (dR fun K hK => ?_);(repeat refine eV ?_);refine cL rfl ⟨rfl, _, rfl⟩ (by omega) (by first | exact tr | exact Mu) (jo ⟨false, f.t1, f.o2, f.t2, false, f.t3, false, f.t4⟩ N (by omega)) ?_;rintro _ rfl;(repeat refine eV ?_);obtain h1 | h1 := Bool.eq_false_or_eq_true (bn N)
 ·have h2 : rr N col = false := by rcases h with h | h; (rw [h1] at h; cases h); exact h
  obtain ⟨hs, hn, hids, hdg⟩ := dz h1;have hel := sq N hdg N.ends.length;obtain d1 | d1 := Bool.eq_false_or_eq_true ((col.length : Int) == (N.ends.length : Int))
  ·have d2 : ((col.length : Int) != (N.ends.length : Int)) = false := by rw [Vf, d1]; rfl
   have hcn : col.length = N.ends.length := by
    have : (col.length : Int) = N.ends.length := by simpa using d1
    omega
   have dX := And.intro dX (And.intro @h1 @d2);(repeat refine eV ?_);have dX := And.intro dX (And.intro @h1 @d2);refine cgF rfl rfl ⟨rfl, _, rfl⟩ (by omega) (by first | exact tr | exact Mu) (zi false t col 0 40 hcl) ?_;rintro _ rfl;(repeat refine eV ?_);obtain d3 | d3 := Bool.eq_false_or_eq_true (col.all fun n => inB n 0 40)
   ·have d4 : I1 N col = false := by
     unfold rr at h2;rw [d1, show ol col 0 40 = true from d3] at h2;simpa using h2
    have d5 : pn (edL N N.ends.length).length (edC N col) = true := by rw [Ai] at d4; simpa using d4
    have dX := And.intro dX (And.intro @h1 (And.intro @d2 @d3));(repeat refine eV ?_);have dK := And.intro @h1 (And.intro @d2 @d3);refine aa (hK _ (a8 [2, 3, 23] ?_));clear hK K;refine dI ?_ ?_<;>intro hb
    ·cases hb
    ·refine ae ?_;show DW _ _ _ _ _;refine ab ?_;refine ab (dR fun K hK => ?_)
     repeat (apply bj; (focus exact rfl); (focus (simp (disch := first | omega | (intros; contradiction)) only [ac, az, pZ, simprocAttr, an, aq, bh, a6, am, if_pos, be, aw, bg, bf, ax, ao, ap, dh, dk, cl, cz, c9 , it, iu]; exact rfl)))
     refine cu rfl ⟨rfl, _, rfl⟩ (by omega) (by first | exact it | exact iu) (by simp (disch := first | omega | (intros; contradiction)) only [ac, az, pZ, simprocAttr, an, aq, bh, a6, am, if_pos, be, aw, bg, bf, ax, ao, ap, dh, dk, cl, cz, c9 , it, iu] <;> exact rfl) (F8 ⟨false, f.t1, f.o2, f.t2, false, f.t3, false, f.t4⟩ N (by omega) hdg) ?_;rintro _ rfl
     repeat (apply bj; (focus exact rfl); (focus (simp (disch := first | omega | (intros; contradiction)) only [ac, az, pZ, simprocAttr, an, aq, bh, a6, am, if_pos, be, aw, bg, bf, ax, ao, ap, dh, dk, cl, cz, c9 , it, iu]; exact rfl)))
     refine cu rfl ⟨rfl, _, rfl⟩ (by omega) (by first | exact it | exact iu) (by simp (disch := first | omega | (intros; contradiction)) only [ac, az, pZ, simprocAttr, an, aq, bh, a6, am, if_pos, be, aw, bg, bf, ax, ao, ap, dh, dk, cl, cz, c9 , it, iu] <;> exact rfl) (la true 78 (edL N N.ends.length) 77 _ _ (by omega) Va (M7 hs hcn t)) ?_;rintro _ rfl
     repeat (apply bj; (focus exact rfl); (focus (simp (disch := first | omega | (intros; contradiction)) only [ac, az, pZ, simprocAttr, an, aq, bh, a6, am, if_pos, be, aw, bg, bf, ax, ao, ap, dh, dk, cl, cz, c9 , it, iu]; exact rfl)))
     have dK := @d5;refine aa (hK _ (a8 [2, 3, 27] ?_));clear hK K;refine dI ?_ ?_<;>intro hb
     ·refine ab (dR fun K hK => ?_);(repeat refine eV ?_);refine aa (hK _ (wK [4, 5, 6] ?_));clear hK K;refine ev 4 3 1 (by decide) (by simp only [ac, pZ, simprocAttr]) [4, 5, 6] (by simp only [ac, pZ, simprocAttr]; exact rfl) ?_;exact aj (al Tryz.results15 (.three (.own _ _ _ _ rfl rfl (own1 (bd _ []))) (.plain _ _ rfl) (.plain _ _ rfl)) (by decide) rfl)
     ·cases hb
   ·have dX := And.intro dX (And.intro @h1 (And.intro @d2 @d3));(repeat refine eV ?_);have dK := And.intro @h1 (And.intro @d2 @d3);refine aa (hK _ (a8 [2, 3, 23] ?_));clear hK K;refine dI ?_ ?_<;>intro hb
    ·refine ab (dR fun K hK => ?_);(repeat refine eV ?_);refine aa (hK _ (wK [4, 5, 6] ?_));clear hK K;refine ev 4 3 1 (by decide) (by simp only [ac, pZ, simprocAttr]) [4, 5, 6] (by simp only [ac, pZ, simprocAttr]; exact rfl) ?_;exact aj (al Tryz.results15 (.three (.own _ _ _ _ rfl rfl (own1 (bd _ []))) (.plain _ _ rfl) (.plain _ _ rfl)) (by decide) rfl)
    ·cases hb
  ·have d2 : ((col.length : Int) != (N.ends.length : Int)) = true := by rw [Vf, d1]; rfl
   have dX := And.intro dX (And.intro @h1 @d2);(repeat refine eV ?_);have dX := And.intro dX (And.intro @h1 @d2);refine csF ?_;(repeat refine eV ?_);have dX := And.intro dX (And.intro @h1 @d2);(repeat refine eV ?_);have dK := And.intro @h1 @d2;refine aa (hK _ (a8 [2, 3, 23] ?_));clear hK K;refine dI ?_ ?_<;>intro hb
   ·refine ab (dR fun K hK => ?_);(repeat refine eV ?_);refine aa (hK _ (wK [4, 5, 6] ?_));clear hK K;refine ev 4 3 1 (by decide) (by simp only [ac, pZ, simprocAttr]) [4, 5, 6] (by simp only [ac, pZ, simprocAttr]; exact rfl) ?_;exact aj (al Tryz.results15 (.three (.own _ _ _ _ rfl rfl (own1 (bd _ []))) (.plain _ _ rfl) (.plain _ _ rfl)) (by decide) rfl)
   ·cases hb
 ·have dX := And.intro dX (@h1);(repeat refine eV ?_);have dX := And.intro dX (@h1);refine csF ?_;(repeat refine eV ?_);have dX := And.intro dX (@h1);(repeat refine eV ?_);have dK := @h1;refine aa (hK _ (a8 [2, 3, 23] ?_));clear hK K;refine dI ?_ ?_<;>intro hb
  ·refine ab (dR fun K hK => ?_);(repeat refine eV ?_);refine aa (hK _ (wK [4, 5, 6] ?_));clear hK K;refine ev 4 3 1 (by decide) (by simp only [ac, pZ, simprocAttr]) [4, 5, 6] (by simp only [ac, pZ, simprocAttr]; exact rfl) ?_;exact aj (al Tryz.results15 (.three (.own _ _ _ _ rfl rfl (own1 (bd _ []))) (.plain _ _ rfl) (.plain _ _ rfl)) (by decide) rfl)
  ·cases hb
def ef : Nat → Stat
 | 0 => ⟨[2], [(2, 1)], [2], [34], [], []⟩
 | 1 => ⟨[7], [], [], [35], [], []⟩
 | 2 => ⟨[34, 35], [], [7], [36], [], []⟩
 | 3 => ⟨[3], [(3, 1)], [], [37], [], []⟩
 | 4 => ⟨[37], [], [], [38], [], []⟩
 | 5 => ⟨[38], [], [], [39], [], []⟩
 | 6 => ⟨[36], [], [36], [4], [(36, 1)], []⟩
 | 7 => ⟨[39], [], [], [5], [], []⟩
 | 8 => ⟨[], [], [], [6], [], []⟩
 | _ => ⟨[], [], [], [], [], []⟩
theorem ot (f : NF) (N : Net) (o : Bool) (t : TypeId) (col : List Int) (m : Nat) (hg : bn N = true) (hc : rr N col = true) (hm : i7 col = (m : Int)) (hml : m ≤ 41) : DCalls Tryz.prog 15 [.agg (bw f N), .c (.sl o t 1 (col.map iC))] (fun r => r = [.own false [.sl true 3 1 ((bc (cd (dm N) (fm col m) N.ends.length)).map iC)], .c (.p (.int .i64 m)), .c (.p (.bool true))]) := by
 obtain ⟨hs, hn, hids, hdg⟩ := dz hg;have hel := sq N hdg N.ends.length;obtain ⟨hcl, hcb, hcn⟩ := Gg hc;have d2 : ((col.length : Int) != (N.ends.length : Int)) = false := by simp [hcl]
 have d3 : (col.all fun n => inB n 0 40) = true := by
  unfold rr at hc;rw [Bool.and_eq_true, Bool.and_eq_true] at hc;exact hc.1.2
 have d5 : pn (edL N N.ends.length).length (edC N col) = false := by rw [Ai] at hcn; simpa using hcn
 have hmx : Lib.maxOf col + 1 = (m : Int) := by
  rw [← hm]
  exact Rp col (by omega) fun x hx => by
   obtain ⟨i, hi, rfl⟩ := List.mem_iff_getElem.1 hx;have := (hcb i hi).1;rwa [bo hi] at this
 have hmx2 : -1 ≤ Lib.maxOf col ∧ Lib.maxOf col ≤ 1000 := by omega
 refine au Tryz.func15 rfl (by rw [Tryz.ntmps15]; simp) fun w0 => ?_;rw [Tryz.ntmps15];have dX := u7;simp only [ce, bm, Arg.av, bw, cm, ints, ends];refine ab (dR fun K hK => ?_);(repeat refine eV ?_);refine aa (hK _ (wK [2, 3] ?_));clear hK K;refine ab ?_;refine ab (dR fun K hK => ?_);(repeat refine eV ?_);refine cL rfl ⟨rfl, _, rfl⟩ (by omega) (by first | exact tr | exact Mu) (jo ⟨false, f.t1, f.o2, f.t2, false, f.t3, false, f.t4⟩ N (by omega)) ?_;rintro _ rfl;(repeat refine eV ?_);have dX := And.intro dX (And.intro @hg @d2);(repeat refine eV ?_);have dX := And.intro dX (And.intro @hg @d2);refine cgF rfl rfl ⟨rfl, _, rfl⟩ (by omega) (by first | exact tr | exact Mu) (zi false t col 0 40 (by omega)) ?_;rintro _ rfl;(repeat refine eV ?_);have dX := And.intro dX (And.intro @hg (And.intro @d2 @d3));(repeat refine eV ?_);have dK := And.intro @hg (And.intro @d2 @d3);refine aa (hK _ (a8 [2, 3, 23] ?_));clear hK K;refine dI ?_ ?_<;>intro hb
 ·cases hb
 ·refine ae ?_;show DW _ _ _ _ _;refine ab ?_;refine ab (dR fun K hK => ?_)
  repeat (apply bj; (focus exact rfl); (focus (simp (disch := first | omega | (intros; contradiction)) only [ac, az, pZ, simprocAttr, an, aq, bh, a6, am, if_pos, be, aw, bg, bf, ax, ao, ap, dh, dk, cl, cz, c9 , it, iu]; exact rfl)))
  refine cu rfl ⟨rfl, _, rfl⟩ (by omega) (by first | exact it | exact iu) (by simp (disch := first | omega | (intros; contradiction)) only [ac, az, pZ, simprocAttr, an, aq, bh, a6, am, if_pos, be, aw, bg, bf, ax, ao, ap, dh, dk, cl, cz, c9 , it, iu] <;> exact rfl) (F8 ⟨false, f.t1, f.o2, f.t2, false, f.t3, false, f.t4⟩ N (by omega) hdg) ?_;rintro _ rfl
  repeat (apply bj; (focus exact rfl); (focus (simp (disch := first | omega | (intros; contradiction)) only [ac, az, pZ, simprocAttr, an, aq, bh, a6, am, if_pos, be, aw, bg, bf, ax, ao, ap, dh, dk, cl, cz, c9 , it, iu]; exact rfl)))
  refine cu rfl ⟨rfl, _, rfl⟩ (by omega) (by first | exact it | exact iu) (by simp (disch := first | omega | (intros; contradiction)) only [ac, az, pZ, simprocAttr, an, aq, bh, a6, am, if_pos, be, aw, bg, bf, ax, ao, ap, dh, dk, cl, cz, c9 , it, iu] <;> exact rfl) (la true 78 (edL N N.ends.length) 77 _ _ (by omega) Va (M7 hs hcl t)) ?_;rintro _ rfl
  repeat (apply bj; (focus exact rfl); (focus (simp (disch := first | omega | (intros; contradiction)) only [ac, az, pZ, simprocAttr, an, aq, bh, a6, am, if_pos, be, aw, bg, bf, ax, ao, ap, dh, dk, cl, cz, c9 , it, iu]; exact rfl)))
  have dK := @d5;refine aa (hK _ (a8 [2, 3, 27] ?_));clear hK K;refine dI ?_ ?_<;>intro hb
  ·cases hb
  ·refine ae ?_;show DW _ _ _ _ _;refine K9 (r := 3) (sN := 29) (sV := 30) (q7 := 7) (qM := 31) (qF := 32) (qC := 33) (n := N.ends.length) (col := col) (fl := false) (t := t) (by show 3 < 40; omega) (by simp (disch := first | omega | (intros; contradiction)) only [ac, az, pZ, simprocAttr, an, aq, bh, a6, am, if_pos, be, aw, bg, bf, ax, ao, ap, dh, dk, cl, cz, c9]; exact rfl) rfl (by rfl) (by simp (disch := first | omega | (intros; contradiction)) only [ac, az, pZ, simprocAttr, an, aq, bh, a6, am, if_pos, be, aw, bg, bf, ax, ao, ap, dh, dk, cl, cz, c9, hcl]; exact rfl) rfl (by rfl) rfl rfl rfl rfl rfl rfl (by rfl) (by rfl) (by rfl) hcl (by omega) (by omega) (fun v hv => by have := hcb v (by omega); omega) rfl rfl rfl rfl rfl rfl rfl rfl rfl (by decide) (by show ∀ x ∈ [30, 7, 31, 32, 33], x < 40; decide) fun ord hop hom => ?_;have hpp : ff ord N.ends.length = true := uj hop;have hco := Pe (m := m) hcl (fun v hv => ⟨(hcb v hv).1, by rw [← hm]; exact Mx (by rw [bo hv]; exact List.getElem_mem hv)⟩) ((I0 hs).1 hcn) hpp hom;refine bi [2, 3, 7] (by simp only [ac, pZ, simprocAttr]; exact rfl) ?_;refine ab (gy ef (fun j r => match j with | 2 => r = [.own false [.sl true 3 1 ((bc (cd (dm N) ord N.ends.length)).map iC)]] | 4 => r = [.c (.p (.int .i64 (Lib.maxOf col)))] | _ => True) fun K hK => ?_)
   repeat (apply my; (focus exact rfl); (focus simp (disch := first | omega | (intros; contradiction)) only [ac, az, gb, pZ, simprocAttr, an, aq, bh, a6, am, if_pos, be, aw, bg, bf, ax, ao, ap, dh, dk, cl, cz, c9 , ef, kl, lc]); (focus (simp (disch := first | omega | (intros; contradiction)) only [ac, az, pZ, simprocAttr, an, aq, bh, a6, am, if_pos, be, aw, bg, bf, ax, ao, ap, dh, dk, cl, cz, c9 , ef, kl, lc]; exact rfl)))
   refine lp rfl ⟨rfl, _, rfl⟩ (by omega) (by first | exact kl | exact lc) (by simp only [ac, az, gb, pZ, simprocAttr, an, aq, bh, a6, am, if_pos, be, aw, bg, bf, ax, ao, ap, dh, dk, cl, cz, c9 , ef, kl, lc]) (by simp only [ac, az, gb, pZ, simprocAttr, an, aq, bh, a6, am, if_pos, be, aw, bg, bf, ax, ao, ap, dh, dk, cl, cz, c9 , ef, kl, lc]) (by simp only [ac, az, gb, pZ, simprocAttr, an, aq, bh, a6, am, if_pos, be, aw, bg, bf, ax, ao, ap, dh, dk, cl, cz, c9 , ef, kl, lc]) (by simp (disch := first | omega | (intros; contradiction)) only [ac, az, pZ, simprocAttr, an, aq, bh, a6, am, if_pos, be, aw, bg, bf, ax, ao, ap, dh, dk, cl, cz, c9 , ef, kl, lc] <;> exact rfl) (km ⟨false, f.t1, f.o2, f.t2, false, f.t3, false, f.t4⟩ N true 3 ord hg hpp) rfl ⟨_, rfl⟩ ?_;rintro _ rfl
   repeat (apply my; (focus exact rfl); (focus simp (disch := first | omega | (intros; contradiction)) only [ac, az, gb, pZ, simprocAttr, an, aq, bh, a6, am, if_pos, be, aw, bg, bf, ax, ao, ap, dh, dk, cl, cz, c9 , ef, kl, lc]); (focus (simp (disch := first | omega | (intros; contradiction)) only [ac, az, pZ, simprocAttr, an, aq, bh, a6, am, if_pos, be, aw, bg, bf, ax, ao, ap, dh, dk, cl, cz, c9 , ef, kl, lc]; exact rfl)))
   refine lp rfl ⟨rfl, _, rfl⟩ (by omega) (by first | exact kl | exact lc) (by simp only [ac, az, gb, pZ, simprocAttr, an, aq, bh, a6, am, if_pos, be, aw, bg, bf, ax, ao, ap, dh, dk, cl, cz, c9 , ef, kl, lc]) (by simp only [ac, az, gb, pZ, simprocAttr, an, aq, bh, a6, am, if_pos, be, aw, bg, bf, ax, ao, ap, dh, dk, cl, cz, c9 , ef, kl, lc]) (by simp only [ac, az, gb, pZ, simprocAttr, an, aq, bh, a6, am, if_pos, be, aw, bg, bf, ax, ao, ap, dh, dk, cl, cz, c9 , ef, kl, lc]) (by simp (disch := first | omega | (intros; contradiction)) only [ac, az, pZ, simprocAttr, an, aq, bh, a6, am, if_pos, be, aw, bg, bf, ax, ao, ap, dh, dk, cl, cz, c9 , ef, kl, lc] <;> exact rfl) (Y7 false t col (by omega)) rfl ⟨_, rfl⟩ ?_;rintro _ rfl
   repeat (apply my; (focus exact rfl); (focus simp (disch := first | omega | (intros; contradiction)) only [ac, az, gb, pZ, simprocAttr, an, aq, bh, a6, am, if_pos, be, aw, bg, bf, ax, ao, ap, dh, dk, cl, cz, c9 , ef, kl, lc]); (focus (simp (disch := first | omega | (intros; contradiction)) only [ac, az, pZ, simprocAttr, an, aq, bh, a6, am, if_pos, be, aw, bg, bf, ax, ao, ap, dh, dk, cl, cz, c9 , ef, kl, lc]; exact rfl)))
   have dK := @hmx;refine b0 (hK _ (a8 [4, 5, 6] ?_));clear hK K;exact aj (al Tryz.results15 (.three (.own _ _ _ _ rfl rfl (own1 (bd _ _))) (.plain _ _ rfl) (.plain _ _ rfl)) (by decide) (by rw [hco]))
end
section
open Go Go.RowKit
section
variable {N : Net}
theorem Rw {rk : Nat → Nat} {S : List Int} (hs : Sym N.ends) (hdf : ∀ v w, v < N.ends.length → w < N.ends.length → v ≠ w → b8 N v (w : Int) = true → rk v ≠ rk w) (h : RankSet (fun v => decide (v < N.ends.length) && !b8 N v v) (fun (v w : Nat) => b8 N v (w : Int)) rk fun v => (v : Int) ∈ S) (h0 : ∀ x ∈ S, 0 ≤ x) :
 (∀ v : Nat, v < N.ends.length → (v : Int) ∈ S ∨ b8 N v v = true ∨ dq N v S = true) ∧ ∀ v : Nat, (v : Int) ∈ S → v < N.ends.length ∧ dq N v S = false := by
 constructor
 ·intro v hv
  by_cases h1 : (v : Int) ∈ S
  ·exact .inl h1
  ·cases hj : b8 N v v with
   | true => exact .inr (.inl rfl)
   | false =>
    obtain ⟨w, hw, hn, -⟩ := h.cover (v := v) (by simp [hv, hj]) h1;exact .inr (.inr (gh.2 ⟨w, hw, hn⟩))
 ·intro v hv;have h1 := h.sub v hv;simp at h1;refine ⟨h1.1, ?_⟩
  cases hn : dq N v S with
  | false => rfl
  | true =>
   obtain ⟨x, hx, hj⟩ := gh.1 hn;have h5 : ((x.toNat : Nat) : Int) = x := by have := h0 x hx; omega
   rw [← h5] at hx hj;have h2 := h.sub x.toNat hx;simp at h2
   by_cases he : v = x.toNat
   ·rw [← he, h1.2] at hj; cases hj
   ·have h6 := hdf v x.toNat h1.1 h2.1 he hj;have hji : b8 N x.toNat (v : Int) = true := ur hs hj
    rcases Nat.lt_trichotomy (rk v) (rk x.toNat) with h3 | h3 | h3
    ·exact absurd h3 ((h.iff x.toNat (by simp [h2.1, h2.2])).1 hx v hv hji)
    ·exact absurd h3 h6
    ·exact absurd h3 ((h.iff v (by simp [h1.1, h1.2])).1 hv x.toNat hx hj)
theorem Tn {L : List Int} {n : Nat} (h : L.Pairwise (· < ·)) (hm : ∀ x ∈ L, 0 ≤ x ∧ x.toNat < n) : eg L 0 ((n : Int) - 1) = true := by
 refine jj.2 fun i hi => ⟨?_, fun hp => ?_⟩
 ·have h1 := hm _ (List.getElem_mem hi);rw [ec, bo hi]; omega
 ·rw [bo hi, bo (show i - 1 < L.length by omega)];exact List.pairwise_iff_getElem.1 h (i - 1) i (by omega) hi (by omega)
theorem Tw {L : List Int} (h1 : ∀ v : Nat, v < N.ends.length → (v : Int) ∈ L ∨ b8 N v v = true ∨ dq N v L = true) (h2 : ∀ x ∈ L, 0 ≤ x ∧ dq N x.toNat L = false) : sy N L = true ∧ pz N L = true := by
 have hi : pz N L = true := by
  unfold pz;exact List.all_eq_true.2 fun x hx => by rw [(h2 x hx).2]; rfl
 refine ⟨?_, hi⟩;unfold sy;rw [hi, Bool.and_true];refine List.all_eq_true.2 fun v hv => ?_
 rcases h1 v (List.mem_range.1 hv) with h | h | h
 ·rw [fb.2 h]; rfl
 ·rw [h]; simp
 ·rw [h]; simp
theorem Hn {rk : Nat → Nat} {S : List Int} (hs : Sym N.ends) (hdf : ∀ v w, v < N.ends.length → w < N.ends.length → v ≠ w → b8 N v (w : Int) = true → rk v ≠ rk w) (h : RankSet (fun v => decide (v < N.ends.length) && !b8 N v v) (fun (v w : Nat) => b8 N v (w : Int)) rk fun v => (v : Int) ∈ S) (h0 : ∀ x ∈ S, 0 ≤ x) (hnd : S.Nodup) :
 eg (bc S) 0 ((N.ends.length : Int) - 1) = true ∧ sy N (bc S) = true ∧ pz N (bc S) = true := by
 obtain ⟨h1, h2⟩ := Rw hs hdf h h0
 have h3 : ∀ x ∈ bc S, 0 ≤ x ∧ x.toNat < N.ends.length ∧ dq N x.toNat S = false := fun x hx => by
  rw [dw] at hx;have h4 := h0 x hx;have h5 : ((x.toNat : Nat) : Int) = x := by omega
  have h6 := h2 x.toNat (by rw [h5]; exact hx);exact ⟨h4, h6.1, h6.2⟩
 refine ⟨Tn (fk hnd) fun x hx => ⟨(h3 x hx).1, (h3 x hx).2.1⟩, Tw (fun v hv => ?_) fun x hx => ⟨(h3 x hx).1, by rw [lh]; exact (h3 x hx).2.2⟩⟩;rw [lh, dw];exact h1 v hv
end
theorem Rx (N : Net) (htm : Tame N) : ∃ (L : List Int) (r : Nat) (ok : Bool), DCalls Tryz.prog 9 [.agg (bw NFz N)] (fun res => res = [.own false [.sl true 3 1 (L.map iC)], .c (.p (.int .i64 r)), .c (.p (.bool ok))]) ∧ DCalls Tryz.prog 10 [.agg (bw NFz N)] (fun res => res = [.own false [.sl true 3 1 (L.map iC)], .c (.p (.int .i64 r)), .c (.p (.bool ok))]) ∧ L.length ≤ 64 ∧
 (ok = true → bn N = true ∧ N.ids.length = N.ends.length ∧ (∀ v w, v < N.ids.length → w < N.ids.length → gi N.ids v = gi N.ids w → v = w) ∧ bc (cd (dm N) (mh N.ids N.ids.length) N.ends.length) = L ∧ eg L 0 ((N.ends.length : Int) - 1) = true ∧ sy N L = true) := by
 have hli := htm.ids
 by_cases h : bn N = false ∨ N.ids.length = 0
 ·exact ⟨[], 0, false, r4 NFz N h (by omega), tg NFz N h (by omega), by simp, fun h => by cases h⟩
 ·obtain ⟨h1, h2⟩ := not_or.1 h;have hg : bn N = true := by simpa using h1
  obtain ⟨hs, hn, -, -⟩ := dz hg;have hil := B7 hg h2;have hdi := Ea hg;obtain ⟨r, hr1, hr2, hr3⟩ := Nw (fun (v w : Nat) => b8 N v (w : Int)) (rkN N.ids) (d7 N N.ends.length);have hfl := lm N N.ends.length;have hsl := v7 (fun (v w : Nat) => b8 N v (w : Int)) (rkN N.ids) (d7 N N.ends.length) r;have hnd := (o0 (nr := fun (v w : Nat) => b8 N v (w : Int)) (rk := rkN N.ids) (kn N N.ends.length) r).1;have hrk := yu (N := N) (rk := rkN N.ids) hs (fun v w hv hw he => r9 hdi (by omega) (by omega) he) hr2
  have h0 : ∀ x ∈ jp (fun (v w : Nat) => b8 N v (w : Int)) (rkN N.ids) (d7 N N.ends.length) r, 0 ≤ x := by
   intro x hx
   have hsub : ∀ k, ∀ x ∈ jp (fun (v w : Nat) => b8 N v (w : Int)) (rkN N.ids) (d7 N N.ends.length) k, x ∈ d7 N N.ends.length := by
    intro k
    induction k with
    | zero => intro x hx; cases hx
    | succ k ih =>
     intro x hx
     rcases List.mem_append.1 hx with hx | hx
     ·exact ih x hx
     ·exact wm k x (jt.1 hx).1
   exact (jl.1 (hsub r x hx)).1
  obtain ⟨a1, a2, -⟩ := Hn hs (fun v w hv hw hne _ he => hne (r9 hdi (by omega) (by omega) he)) hrk h0 hnd;exact ⟨_, r, true, th NFz N r _ _ _ rfl rfl rfl hg h2 hr2 hr3 (by omega), vl NFz N r _ _ _ rfl rfl rfl hg h2 hr2 hr3 (by omega), by rw [dn]; omega, fun _ => ⟨hg, hil, hdi, O2 hs hil hdi hr2, a1, a2⟩⟩
theorem Pc (N : Net) (htm : Tame N) (o : Bool) (t : TypeId) (col : List Int) (hcl : col.length ≤ 64) : ∃ (L : List Int) (r : Nat) (ok : Bool), DCalls Tryz.prog 15 [.agg (bw NFz N), .c (.sl o t 1 (col.map iC))] (fun res => res = [.own false [.sl true 3 1 (L.map iC)], .c (.p (.int .i64 r)), .c (.p (.bool ok))]) ∧ DCalls Tryz.prog 16 [.agg (bw NFz N), .c (.sl o t 1 (col.map iC))] (fun res => res = [.own false [.sl true 3 1 (L.map iC)], .c (.p (.int .i64 r)), .c (.p (.bool ok))]) ∧ L.length ≤ 64 ∧
 (ok = true → bn N = true ∧ eg L 0 ((N.ends.length : Int) - 1) = true ∧ sy N L = true ∧ pz N L = true) := by
 have hli := htm.ids
 by_cases h : bn N = false ∨ rr N col = false
 ·exact ⟨[], 0, false, ni NFz N o t col h (by omega) (by omega), oq NFz N o t col h (by omega), by simp, fun h => by cases h⟩
 ·obtain ⟨h1, h2⟩ := not_or.1 h;have hg : bn N = true := by simpa using h1
  have hc : rr N col = true := by simpa using h2
  obtain ⟨hs, hn, -, -⟩ := dz hg;obtain ⟨hcl, hcb, hcn⟩ := Gg hc
  have hmi := Fs (m := 41) col 0 (fun x hx => by
   obtain ⟨i, hi, rfl⟩ := List.mem_iff_getElem.1 hx;have := hcb i hi
   rw [bo hi] at this; omega) (by omega)
  obtain ⟨m, hm⟩ : ∃ m : Nat, i7 col = (m : Int) := ⟨(i7 col).toNat, by unfold i7; omega⟩;have hml : m ≤ 41 := by unfold i7 at hm; omega
  have hcm : ∀ v, v < col.length → 0 ≤ gi col v ∧ gi col v < m := fun v hv => ⟨(hcb v hv).1, by rw [← hm]; exact Mx (by rw [bo hv]; exact List.getElem_mem hv)⟩;have hpC := Dx hcm;rw [hcl] at hpC;have hlen := (js hpC).1;have hcd := (I0 hs).1 hcn
  have hrk := Ci (fun v hv => (hcb v (by omega)).1) hcd hpC fun i j hij hj => by
   have h4 := List.pairwise_iff_getElem.1 (Bm (col := col) m) i j (by omega) (by omega) hij;rw [bo (show i < (fm col m).length by omega), bo (show j < (fm col m).length by omega)]; exact h4
  have h0 : ∀ x ∈ cd (dm N) (fm col m) N.ends.length, 0 ≤ x := fun x hx => by
   obtain ⟨i, hi, rfl⟩ := er _ hx;exact ((js hpC).2.1 i hi).1
  obtain ⟨a1, a2, a3⟩ := Hn hs (fun v w hv hw hne hj he => by
   have h3 := hcd v w hv hw hne hj;have h4 := (hcb v (by omega)).1;have h5 := (hcb w (by omega)).1
   omega) hrk h0 (i9 hpC _ (Nat.le_refl _))
  have hgl := l7 (bad := dm N) (ord := fm col m) N.ends.length;have hsp := pr NFz N o t col m hg hc hm hml;rw [hlen] at hsp;exact ⟨_, m, true, ot NFz N o t col m hg hc hm hml, hsp, by rw [dn]; omega, fun _ => ⟨hg, a1, a2, a3⟩⟩
end
section
open Go Go.RowKit
def zBLaIndependent1 := PLift.up (And.intro an (And.intro @be (And.intro a6 (And.intro am (And.intro @if_pos.{1} (And.intro aq (And.intro bh (And.intro @netZ.eq_1 (And.intro @netO.eq_1 (And.intro Y0 (And.intro @bne_self_eq_false.{0} (And.intro @beq_self_eq_true.{0} (And.intro @Bool.not_true (And.intro @Bool.not_false (And.intro @Bool.true_beq (And.intro @Bool.false_beq (And.intro @ax @trivial)))))))))))))))))
theorem yi : type_of% zBLaIndependent1.down := zBLaIndependent1.down
set_option maxRecDepth 8000 in
set_option maxHeartbeats 0 in
theorem zv (a b : List Int) (hA : ku a) (hB : ku b) : dv Tryz.prog 3 [.c (gf a), .c (gf b)] (fun r => r = [.c (.p (.bool true))]) := by
 refine om (by simp [Arg.isIo]) Tryz.func3 rfl (by rw [Tryz.ntmps3]; simp) fun w0 => ?_;rw [Tryz.ntmps3];have dX := yi;simp only [ce, bm, Arg.av, gf];refine ab (dR fun K hK => ?_);(repeat refine eV ?_);refine aa (hK _ (wK [0, 1] ?_));clear hK K;refine ab ?_;refine ab (dR fun K hK => ?_);(repeat refine eV ?_);refine cL rfl ⟨rfl, _, rfl⟩ (by omega) (by first | exact Zm) (Y1 a b hA) ?_;rintro _ rfl;(repeat refine eV ?_);refine aa (hK _ (wK [0, 1, 42] ?_));clear hK K;refine dI ?_ ?_<;>intro hb
 ·refine ab (dR fun K hK => ?_);(repeat refine eV ?_);refine aa (hK _ (wK [4] ?_));clear hK K;exact aj (jw Tryz.results3 (.one (.re _ _ (.plain _ _ rfl))) (by decide) rfl)
 ·obtain ⟨hby, hby2⟩ := Uk hb hA hB;refine ae ?_;show DW _ _ _ _ _;refine ab (dR fun K hK => ?_);(repeat refine eV ?_);refine caF rfl ⟨rfl, _, rfl⟩ (by omega) (by first | exact Zl) (pu a hby) ?_;rintro _ ⟨N, rfl, htm⟩;(repeat refine eV ?_);refine aa (hK _ (wK [0, 1, 5] ?_));clear hK K;have hln := htm.len;have hli := htm.ids;obtain ⟨L, r, ok, hI, hS, hLl, hok⟩ := Rx N htm;have hLs := Ax L;refine ab (dR fun K hK => ?_);(repeat refine eV ?_);refine cL rfl ⟨rfl, _, rfl⟩ (by omega) (by first | exact Zk) (hI) ?_;rintro _ rfl;(repeat refine eV ?_);refine aa (hK _ (wK [0, 1, 5, 6, 7, 8] ?_));clear hK K;refine ab (dR fun K hK => ?_);(repeat refine eV ?_);refine cL rfl ⟨rfl, _, rfl⟩ (by omega) (by first | exact Yu) (hS) ?_;rintro _ rfl;(repeat refine eV ?_);refine aa (hK _ (wK [0, 1, 5, 6, 7, 8, 9, 10, 11] ?_));clear hK K;refine ab ?_;refine ab (dR fun K hK => ?_);(repeat refine eV ?_);refine cgF rfl rfl ⟨rfl, _, rfl⟩ (by omega) (by first | exact Ro) (ud true 3 L true 3 L (by omega) (by omega)) ?_;rintro _ rfl;(repeat refine eV ?_);have dX := And.intro dX (@hLs);(repeat refine eV ?_);have dK := @hLs;refine aa (hK _ (a8 [0, 1, 5, 6, 8, 70] ?_));clear hK K;refine dI ?_ ?_<;>intro hb
  ·cases hb
  ·refine ae ?_;show DW _ _ _ _ _;refine mw (X := Unit) (fun x => True) (fun x => mkE 215 [(0, .c (.sl false 5 1 (a.map bC))), (1, .c (.sl false 5 1 (b.map bC)))] []) ?_ ?_
   ·refine ab (dR fun K hK => ?_);(repeat refine eV ?_);refine aa (hK _ (wK [0, 1, 5, 6, 71] ?_));clear hK K
    cases ok with
    | false =>
     refine dI ?_ ?_<;>intro hb
     ·cases hb
     ·refine ae ?_;show ∃ x, _ ∧ Weak _ _;refine ⟨(), ?_, (co _ [0, 1]).trans (Weak.of_eq (by simp only [ac, pZ, simprocAttr] <;> exact rfl))⟩;trivial
    | true =>
     obtain ⟨hg, hil, hdi, hord, hrise, hmax⟩ := hok rfl;obtain ⟨hs, hn, hids, hdg⟩ := dz hg;refine dI ?_ ?_<;>intro hb
     ·obtain ⟨n, hnn⟩ : ∃ n, n = N.ids.length := ⟨_, rfl⟩;have hz : List.replicate N.ids.length 0 = mh N.ids 0 := rfl;have dX := And.intro dX (And.intro @Ut @hz);refine ab (dR fun K hK => ?_);(repeat refine eV ?_);have dK := And.intro @Ut @hz;refine aa (hK _ (a8 [0, 1, 5, 6, 12] ?_));clear hK K;refine ab ?_;refine ab (dR fun K hK => ?_);(repeat refine eV ?_);refine aa (hK _ (wK [0, 1, 5, 6, 12, 77, 78, 79] ?_));clear hK K;refine af ?_;refine ba (X := Nat) (fun k => k ≤ N.ids.length) (fun k => [(79, .c (.p (.int .i64 k)))]) (fun k => [((12, 0), ⟨none, [.sl true 3 1 ((mh N.ids k).map iC)]⟩)]) (fun k => N.ids.length - k) 0 (Nat.zero_le _) (by first | rfl | (simp only [ac, pZ, simprocAttr, Int.natCast_zero] <;> rfl)) ?_;rintro k hk;intro E hE;simp only [ac, pZ, simprocAttr] at hE;subst hE;have hol := ns (ids := N.ids) k;refine ab (dR fun K hK => ?_);(repeat refine eV ?_);refine aa (hK _ (wK [0, 1, 5, 6, 12, 77, 78, 79, 80] ?_));clear hK K;refine ab (dI (fun hb => ?_) (fun hb => ?_))
      ·have hk1 : k < N.ids.length := by simpa using hb
       have hrl : rkN N.ids k < N.ids.length := Jx hk1;have hos : (mh N.ids k).set (rkN N.ids k) (k : Int) = mh N.ids (k + 1) := rfl;refine ae ?_;show DW _ _ _ _ _;refine ab (af ?_);refine ab (dR fun K hK => ?_);(repeat refine eV ?_);refine aa (hK _ (wK [0, 1, 5, 6, 12, 13, 14, 77, 78, 79] ?_));clear hK K;refine ab (dR fun K hK => ?_);(repeat refine eV ?_);refine aa (hK _ (wK [0, 1, 5, 6, 12, 13, 14, 15, 77, 78, 79] ?_));clear hK K;refine ab ?_;refine ab (dR fun K hK => ?_);(repeat refine eV ?_);refine aa (hK _ (wK [0, 1, 5, 6, 12, 13, 14, 15, 77, 78, 79, 85, 86, 87] ?_));clear hK K;refine af ?_;refine ba (X := Nat) (fun m => m ≤ N.ids.length) (fun m => [(15, .c (.p (.int .i64 (ct (fun w => decide (gi N.ids w < gi N.ids k)) m)))), (87, .c (.p (.int .i64 m)))]) (fun m => []) (fun m => N.ids.length - m) 0 (Nat.zero_le _) (by first | rfl | (simp only [ac, pZ, simprocAttr, Int.natCast_zero, ct] <;> rfl)) ?_;rintro m hm;intro E hE;simp only [ac, pZ, simprocAttr] at hE;subst hE;have hct := Gf (fun w => decide (gi N.ids w < gi N.ids k)) m;refine ab (dR fun K hK => ?_);(repeat refine eV ?_);refine aa (hK _ (wK [0, 1, 5, 6, 12, 13, 14, 15, 77, 78, 79, 85, 86, 87, 88] ?_));clear hK K;refine ab (dI (fun hb => ?_) (fun hb => ?_))
       ·have hm1 : m < N.ids.length := by simpa using hb
        have hcs : ct (fun w => decide (gi N.ids w < gi N.ids k)) (m + 1) = ct (fun w => decide (gi N.ids w < gi N.ids k)) m + if decide (gi N.ids m < gi N.ids k) = true then 1 else 0 := rfl
        refine ae ?_;show DW _ _ _ _ _;refine ab (af ?_);refine ab (dR fun K hK => ?_);(repeat refine eV ?_);refine aa (hK _ (wK [0, 1, 5, 6, 12, 13, 14, 15, 17, 77, 78, 79, 85, 86, 87] ?_));clear hK K;refine ab (dR fun K hK => ?_);(repeat refine eV ?_);refine aa (hK _ (wK [0, 1, 5, 6, 12, 13, 14, 15, 77, 78, 79, 85, 86, 87, 93] ?_));clear hK K;refine dI ?_ ?_<;>intro hb
        ·have hc2 : ((ct (fun w => decide (gi N.ids w < gi N.ids k)) m : Nat) : Int) + 1 = ((ct (fun w => decide (gi N.ids w < gi N.ids k)) (m + 1) : Nat) : Int) := by rw [hcs, if_pos hb]; omega
         refine dR fun K hK => ?_;(repeat refine eV ?_);have dK := @hc2;refine aa (hK _ (a8 [0, 1, 5, 6, 12, 13, 14, 15, 77, 78, 79, 85, 86, 87] ?_));clear hK K;refine dR fun K hK => ?_;(repeat refine eV ?_);have dK := @bq;refine aa (hK _ ?_);clear hK K;show ∃ x, _ ∧ _ ∧ Weak _ _;refine ⟨m + 1, ?_, ?_, a7 [0, 1, 5, 6, 12, 13, 14, 15, 77, 78, 79, 85, 86, 87]⟩
         ·omega
         ·omega
        ·have hc2 : ct (fun w => decide (gi N.ids w < gi N.ids k)) (m + 1) = ct (fun w => decide (gi N.ids w < gi N.ids k)) m := by rw [hcs, if_neg (by rw [hb]; decide), Nat.add_zero]
         refine ae ?_;show DW _ _ _ _ _;refine dR fun K hK => ?_;(repeat refine eV ?_);have dK := And.intro @bq @hc2;refine aa (hK _ ?_);clear hK K;show ∃ x, _ ∧ _ ∧ Weak _ _;refine ⟨m + 1, ?_, ?_, a7 [0, 1, 5, 6, 12, 13, 14, 15, 77, 78, 79, 85, 86, 87]⟩
         ·omega
         ·omega
       ·have hm2 : m = N.ids.length := by
         have : ¬ m < N.ids.length := by simpa using hb
         omega
        have hrk : ct (fun w => decide (gi N.ids w < gi N.ids k)) m = rkN N.ids k := by rw [hm2]; rfl
        rw [hrk];refine ay ?_;refine bi [0, 1, 5, 6, 12, 13, 15, 77, 78, 79] (by simp only [ac, pZ, simprocAttr]; exact rfl) ?_;have dX := And.intro dX (And.intro @Int.toNat_natCast @C5);refine dR fun K hK => ?_;(repeat refine eV ?_);have dK := And.intro @C5 @hos;refine aa (hK _ (a8 [0, 1, 5, 6, 12, 77, 78, 79] ?_));clear hK K;refine dR fun K hK => ?_;(repeat refine eV ?_);have dK := @bq;refine aa (hK _ ?_);clear hK K;show ∃ x, _ ∧ _ ∧ Weak _ _;refine ⟨k + 1, ?_, ?_, a7 [0, 1, 5, 6, 12, 77, 78, 79]⟩
        ·omega
        ·omega
      ·have hk2 : k = N.ids.length := by
        have : ¬ k < N.ids.length := by simpa using hb
        omega
       rw [hk2]
       have hpR : ff (mh N.ids N.ids.length) N.ends.length = true := by
        have := Dw hdi;rwa [hil] at this ⊢
       have hGI : DCalls Tryz.prog 12 [.agg (bw NFz N), .c (.sl true 3 1 ((mh N.ids N.ids.length).map iC))] (fun r => r = [.own false [.sl true 3 1 (L.map iC)], .c (.p (.bool true))]) := by
        have := tj NFz N true 3 (mh N.ids N.ids.length) hg hpR;rwa [hord] at this
       have hIM : DCalls Tryz.prog 13 [.agg (bw NFz N), .c (.sl true 3 1 (L.map iC))] (fun r => r = [.c (.p (.bool true)), .c (.p (.bool true))]) := by
        have := fu NFz N true 3 L (by omega) (by omega) (by omega);rwa [hg, hrise, hmax] at this
       refine ay ?_;refine bi [0, 1, 5, 6, 12] (by simp only [ac, pZ, simprocAttr]; exact rfl) ?_;refine ab (dR fun K hK => ?_);(repeat refine eV ?_);refine cL rfl ⟨rfl, _, rfl⟩ (by omega) (by first | exact Yt) (hGI) ?_;rintro _ rfl;(repeat refine eV ?_);refine aa (hK _ (wK [0, 1, 5, 6, 18, 19] ?_));clear hK K;refine ab (dR fun K hK => ?_);(repeat refine eV ?_);refine cL rfl ⟨rfl, _, rfl⟩ (by omega) (by first | exact Rn) (hIM) ?_;rintro _ rfl;(repeat refine eV ?_);refine aa (hK _ (wK [0, 1, 6, 18, 19, 20, 21] ?_));clear hK K;refine ab (dR fun K hK => ?_);(repeat refine eV ?_);refine cgF rfl rfl ⟨rfl, _, rfl⟩ (by omega) (by first | exact Ro) (ud true 3 L true 3 L (by omega) (by omega)) ?_;rintro _ rfl;(repeat refine eV ?_);have dX := And.intro dX (@hLs);(repeat refine eV ?_);have dK := @hLs;refine aa (hK _ (a8 [0, 1, 129] ?_));clear hK K;refine dI ?_ ?_<;>intro hb
       ·cases hb
       ·refine ae ?_;show ∃ x, _ ∧ Weak _ _;refine ⟨(), ?_, (co _ [0, 1]).trans (Weak.of_eq (by simp only [ac, pZ, simprocAttr] <;> exact rfl))⟩;trivial
     ·cases hb
   ·rintro x -;refine ab (dR fun K hK => ?_);(repeat refine eV ?_);refine caF rfl ⟨rfl, _, rfl⟩ (by omega) (by first | exact Ys) (mg b hby2) ?_;rintro _ ⟨N2, col, rfl, htm2, hcl⟩;(repeat refine eV ?_);refine aa (hK _ (wK [0, 22, 23] ?_));clear hK K;have hln2 := htm2.len;have hli2 := htm2.ids;obtain ⟨L2, r2, ok2, hI2, hS2, hLl2, hok2⟩ := Pc N2 htm2 true 3 col hcl;have hLs2 := Ax L2;refine ab (dR fun K hK => ?_);(repeat refine eV ?_);refine cL rfl ⟨rfl, _, rfl⟩ (by omega) (by first | exact Yr) (hI2) ?_;rintro _ rfl;(repeat refine eV ?_);refine aa (hK _ (wK [0, 22, 23, 24, 25, 26] ?_));clear hK K;refine ab (dR fun K hK => ?_);(repeat refine eV ?_);refine cL rfl ⟨rfl, _, rfl⟩ (by omega) (by first | exact Yq) (hS2) ?_;rintro _ rfl;(repeat refine eV ?_);refine aa (hK _ (wK [0, 22, 24, 25, 26, 27, 28, 29] ?_));clear hK K;refine ab ?_;refine ab (dR fun K hK => ?_);(repeat refine eV ?_);refine cgF rfl rfl ⟨rfl, _, rfl⟩ (by omega) (by first | exact Ro) (ud true 3 L2 true 3 L2 (by omega) (by omega)) ?_;rintro _ rfl;(repeat refine eV ?_);have dX := And.intro dX (@hLs2);(repeat refine eV ?_);have dK := @hLs2;refine aa (hK _ (a8 [0, 22, 24, 26, 162] ?_));clear hK K;refine dI ?_ ?_<;>intro hb
    ·cases hb
    ·refine ae ?_;show DW _ _ _ _ _;refine mw (X := Unit) (fun x => True) (fun x => mkE 215 [(0, .c (.sl false 5 1 (a.map bC)))] []) ?_ ?_
     ·refine ab (dR fun K hK => ?_);(repeat refine eV ?_);refine aa (hK _ (wK [0, 22, 24, 163] ?_));clear hK K
      cases ok2 with
      | false =>
       refine dI ?_ ?_<;>intro hb
       ·cases hb
       ·refine ae ?_;show ∃ x, _ ∧ Weak _ _;refine ⟨(), ?_, (co _ [0]).trans (Weak.of_eq (by simp only [ac, pZ, simprocAttr] <;> exact rfl))⟩;trivial
      | true =>
       obtain ⟨hg2, hrise2, hmax2, hind2⟩ := hok2 rfl
       have hIM2 : DCalls Tryz.prog 13 [.agg (bw NFz N2), .c (.sl true 3 1 (L2.map iC))] (fun r => r = [.c (.p (.bool true)), .c (.p (.bool true))]) := by
        have := fu NFz N2 true 3 L2 (by omega) (by omega) (by omega);rwa [hg2, hrise2, hmax2] at this
       have hII2 : DCalls Tryz.prog 17 [.agg (bw NFz N2), .c (.sl true 3 1 (L2.map iC))] (fun r => r = [.c (.p (.bool true)), .c (.p (.bool true))]) := by
        have := zu NFz N2 true 3 L2 (by omega) (by omega) (by omega);rwa [hg2, hrise2, hind2] at this
       refine dI ?_ ?_<;>intro hb
       ·refine ab (dR fun K hK => ?_);(repeat refine eV ?_);refine cL rfl ⟨rfl, _, rfl⟩ (by omega) (by first | exact Rn) (hIM2) ?_;rintro _ rfl;(repeat refine eV ?_);refine aa (hK _ (wK [0, 22, 24, 30, 31] ?_));clear hK K;refine ab (dR fun K hK => ?_);(repeat refine eV ?_);refine cL rfl ⟨rfl, _, rfl⟩ (by omega) (by first | exact Yp) (hII2) ?_;rintro _ rfl;(repeat refine eV ?_);refine aa (hK _ (wK [0, 30, 31, 32, 33] ?_));clear hK K;refine ab (dR fun K hK => ?_);(repeat refine eV ?_);refine aa (hK _ (wK [0, 189] ?_));clear hK K;refine dI ?_ ?_<;>intro hb
        ·cases hb
        ·refine ae ?_;show ∃ x, _ ∧ Weak _ _;refine ⟨(), ?_, (co _ [0]).trans (Weak.of_eq (by simp only [ac, pZ, simprocAttr] <;> exact rfl))⟩;trivial
       ·cases hb
     ·rintro x -;refine ab (dR fun K hK => ?_);(repeat refine eV ?_);refine caF rfl ⟨rfl, _, rfl⟩ (by omega) (by first | exact Yo) (mf a hby) ?_;rintro _ ⟨N3, l, rfl, htm3, hll⟩;(repeat refine eV ?_);refine aa (hK _ (wK [34, 35] ?_));clear hK K;have hln3 := htm3.len;have hli3 := htm3.ids;obtain ⟨b1, hb1⟩ : ∃ b1, b1 = (bn N3 && eg l 0 ((N3.ends.length : Int) - 1) && sy N3 l) := ⟨_, rfl⟩;obtain ⟨b2, hb2⟩ : ∃ b2, b2 = (bn N3 && eg l 0 ((N3.ends.length : Int) - 1)) := ⟨_, rfl⟩;have hM1 := fu NFz N3 true 3 l (by omega) (by omega) (by omega);have hM2 := pq NFz N3 true 3 l (by omega) (by omega);rw [← hb1, ← hb2] at hM1 hM2;have e1 : (b1 == b1) = true := beq_self_eq_true b1;have e2 : (b2 == b2) = true := beq_self_eq_true b2;refine ab (dR fun K hK => ?_);(repeat refine eV ?_);refine cL rfl ⟨rfl, _, rfl⟩ (by omega) (by first | exact Rn) (hM1) ?_;rintro _ rfl;(repeat refine eV ?_);refine aa (hK _ (wK [34, 35, 36, 37] ?_));clear hK K;refine ab (dR fun K hK => ?_);(repeat refine eV ?_);refine cL rfl ⟨rfl, _, rfl⟩ (by omega) (by first | exact Yn) (hM2) ?_;rintro _ rfl;(repeat refine eV ?_);refine aa (hK _ (wK [36, 37, 38, 39] ?_));clear hK K;have dX := And.intro dX (And.intro @e1 @e2);refine ab (dR fun K hK => ?_);(repeat refine eV ?_);have dK := And.intro @e1 @e2;refine aa (hK _ (a8 [4] ?_));clear hK K;exact aj (jw Tryz.results3 (.one (.re _ _ (.plain _ _ rfl))) (by decide) rfl)
theorem Bz (v0 v1 : Value) (L0 L1 : Nat) (w : World) (h0 : Jf w v0 L0) (h1 : Jf w v1 L1) : Calls Tryz.prog 3 #[v0, v1] w (oo w (.bool true)) := Wo (fun a b hA hB => zv a b hA hB) h0 h1
end
end Go.Proofs.YtolpiolnhgpjjaaGreat
