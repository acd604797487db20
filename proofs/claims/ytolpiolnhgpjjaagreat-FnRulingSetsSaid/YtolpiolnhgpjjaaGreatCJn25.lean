/- Parts of the proof. -/
import Derived.Test.YtolpiolnhgpjjaaGreatChecked
import Derived.Test.YtolpiolnhgpjjaaGreatCJn7
import Derived.Test.YtolpiolnhgpjjaaGreatCShelf
import Derived.Test.YtolpiolnhgpjjaaGreatCJn9
set_option linter.unusedSimpArgs false
set_option linter.unusedVariables false
namespace Go.Proofs.YtolpiolnhgpjjaaGreat
section
open Go.RowKit
def Enters (g : FuncId) : Prop := ∀ (args : Array Value) (w : World), (callFunc g args).run Tryz.prog w = .ok (.enter g args) w
theorem Enters.of {g : FuncId} {fn : Func} {c : Code} (hf : Tryz.prog.funcs[g]? = some fn) (hname : (fn.name == "runtime.NumGoroutine") = false) (hb : fn.body = some c) : Enters g := by
 intro args w;have h1 : fn.name ≠ "runtime.NumGoroutine" := by simpa using hname
 simp [callFunc, hf, h1, hb]
def T7 (w : World) (g : FuncId) (caps : Array Value) (p : Int → Bool) : Prop :=
 Enters g ∧ ∀ (x : Int) (W : World), Below w.heap.size w W → Calls Tryz.prog g (#[.int .i64 x] ++ caps) W (ot W (.bool (p x)))
def ob (p : Int → Bool) (xs : List Int) : Int := if xs.any p then (xs.findIdx p : Int) else -1
theorem Mt {p : Int → Bool} {xs : List Int} {k : Nat} (hk : k < xs.length) (h : ∀ j, j < k → p (gi xs j) = false) (he : p (gi xs k) = true) : ob p xs = k := by
 have h1 : xs.any p = true := by
  rw [List.any_eq_true]; exact ⟨xs[k], List.getElem_mem hk, by rwa [← bm hk]⟩
 have h2 : xs.findIdx p = k := by
  rw [List.findIdx_eq hk];refine ⟨by rwa [← bm hk], fun j hj => ?_⟩;have := h j hj;rwa [bm (by omega)] at this
 simp [ob, h1, h2]
theorem F4 {p : Int → Bool} {xs : List Int} (h : ∀ j, j < xs.length → p (gi xs j) = false) : ob p xs = -1 ∧ xs.any p = false := by
 have h1 : xs.any p = false := by
  rw [← Bool.not_eq_true, List.any_eq_true];rintro ⟨x, hx, hp⟩;obtain ⟨k, hk, rfl⟩ := List.getElem_of_mem hx;have := h k hk;rw [bm hk, hp] at this;cases this
 exact ⟨by simp [ob, h1], h1⟩
theorem Mu {p : Int → Bool} {xs : List Int} : decide (0 ≤ ob p xs) = xs.any p := by
 unfold ob; split <;> simp_all
set_option maxRecDepth 100000 in
set_option maxHeartbeats 800000 in
theorem Aw {S : Nat → Prop} (v : Value) (xs : List Int) (g : FuncId) (caps : Array Value) (p : Int → Bool) (w : World) (h : IntsR w S v xs) (hp : T7 w g caps p) :
 Calls Tryz.prog 118 #[v, .func (.func g) #[] caps] w (ot w (.int .i64 (ob p xs))) := by
 have hb := h.bound;obtain ⟨A, c, rfl, hnc, hm, hx⟩ := h;have HX := Lib.hid hx;have HP := Lib.hid hp;clear hx hp
 go_enter Tryz.func118, Tryz.ntmps118
 go_wp2
 go_loopw [8] (fun i wr => ∃ k : Nat, k ≤ xs.length ∧ i = .int .i64 k ∧ (∀ j, j < k → p (gi xs j) = false) ∧ Below w.heap.size w wr) (fun i _ => xs.length - (intOf i).toNat)
 case atStart => exact ⟨0, Nat.zero_le _, rfl, fun j hj => absurd hj (Nat.not_lt_zero _), Below.refl _ _⟩
 case round =>
  obtain ⟨k, hk, rfl, hs, hbel⟩ := hrel;have HS := Lib.hid hs;clear hs
  by_cases hlt : k < xs.length
  ·obtain ⟨b, off, rfl, -, hc⟩ := HX.out (by omega);have h1 : wr.cell? ⟨b, off + k, none⟩ = some (.int .i64 (gi xs k)) := by rw [hbel.cell (by exact bf (hc k hlt))]; exact hc k hlt
   clear hc;have HB := Lib.hid hbel;clear hbel;have hen : ∀ (args : Array Value) (w : World), (callFunc g args).run Tryz.prog w = .ok (.enter g args) w := HP.out.1;cases he : p (gi xs k)
   ·have HE := Lib.hid he;clear he
    go_wp2_with fail
    refine (HP.out.2 _ _ HB.out).mono ?_;rintro e w1 ⟨rfl, hb1⟩;rw [HE.out];have HB1 := Lib.hid (Below.thenB HB.out hb1 HB.out.size);clear hb1
    go_wp2_with fail
    go_roundw
    case rel =>
     refine ⟨k + 1, by omega, by go_num, fun j hj => ?_, HB1.out⟩
     by_cases h1 : j = k
     ·subst h1; exact HE.out
     ·exact HS.out j (by omega)
    case measure => simp [intOf]; omega
   ·have HE := Lib.hid he;have HF := Lib.hid (Mt hlt HS.out he);clear he
    go_wp2_with fail
    refine (HP.out.2 _ _ HB.out).mono ?_;rintro e w1 ⟨rfl, hb1⟩;rw [HE.out];have HB1 := Lib.hid (Below.thenB HB.out hb1 HB.out.size);clear hb1
    go_wp2_with fail
    go_ret
    exact ⟨by rw [HF.out]; rfl, HB1.out⟩
  ·have HF := Lib.hid (F4 (p := p) (xs := xs) fun j hj => HS.out j (by omega))
   go_wp2
   go_ret
   exact ⟨by rw [HF.out.1]; rfl, hbel⟩
set_option maxHeartbeats 800000 in
theorem vl {S : Nat → Prop} (v : Value) (xs : List Int) (g : FuncId) (caps : Array Value) (p : Int → Bool) (w : World) (h : IntsR w S v xs) (hp : T7 w g caps p) :
 Calls Tryz.prog 94 #[v, .func (.func g) #[] caps] w (ot w (.bool (xs.any p))) := by
 have C := Lib.hid (Aw v xs g caps p w h hp);have HG := Lib.hid (Mu (p := p) (xs := xs));clear h hp
 go_enter Tryz.func94, Tryz.ntmps94
 go_wp2_with fail
 refine C.out.mono ?_;rintro e w1 ⟨rfl, hb1⟩;have HB1 := Lib.hid hb1;clear hb1
 generalize ob p xs = r at HG ⊢
 by_cases hr : 0 ≤ r
 ·have e1 : decide (0 ≤ r) = true := by simp [hr]
  rw [e1] at HG
  go_wp2_with fail
  go_ret
  exact ⟨by rw [← HG.out]; rfl, HB1.out⟩
 ·have e1 : decide (0 ≤ r) = false := by simp [hr]
  rw [e1] at HG
  go_wp2_with fail
  go_ret
  exact ⟨by rw [← HG.out]; rfl, HB1.out⟩
set_option maxHeartbeats 800000 in
theorem As (x lo hi : Int) (a b : Nat) (w : World) (ha : w.cell? ⟨a, 0, none⟩ = some (.int .i64 lo)) (hb : w.cell? ⟨b, 0, none⟩ = some (.int .i64 hi)) :
 Calls Tryz.prog 158 #[.int .i64 x, .pointer (some ⟨a, 0, none⟩), .pointer (some ⟨b, 0, none⟩)] w (RetD w (.bool (!inB x lo hi))) := by
 go_enter Tryz.func158, Tryz.ntmps158
 go_wp2_with (go_at_call 92; refine (di _ _ _ _).mono ?_; rintro e w1 ⟨rfl, rfl⟩)
 go_ret
 exact ⟨rfl, 0, rfl⟩
theorem Gu (xs : List Int) (lo hi : Int) : (!xs.any fun x => !inB x lo hi) = rx xs lo hi := by
 simp only [rx]
 induction xs with
 | nil => rfl
 | cons x xs ih => simp only [List.any_cons, List.all_cons, Bool.not_or, Bool.not_not, ih]
set_option maxHeartbeats 800000 in
theorem At {S : Nat → Prop} (v : Value) (xs : List Int) (lo hi : Int) (w : World) (h : IntsR w S v xs) :
 Calls Tryz.prog 74 #[v, .int .i64 lo, .int .i64 hi] w (ot w (.bool (rx xs lo hi))) := by
 have hb0 : ∀ o1 o2, Below w.heap.size w ((w.alloc o1).alloc o2) := fun o1 o2 => ((Below.refl _ _).alloc (Nat.le_refl _) _).alloc (by simp) _;have HB0 := Lib.hid hb0;have HR := Lib.hid h;clear h hb0
 go_enter Tryz.func74, Tryz.ntmps74
 go_wp2_with fail
 refine (vl _ _ _ _ (fun x => !inB x lo hi) _ (HR.out.below (HB0.out _ _)) ⟨Enters.of Tryz.func158 (by kernel_rfl) rfl, fun x W hW => ?_⟩).mono ?_
 ·obtain ⟨k1, k2⟩ := Yu hW;exact (As x lo hi _ _ W (by rw [k1]; rfl) (by rw [k2]; rfl)).mono fun _ _ h => h.v
 rintro e w1 ⟨rfl, hb1⟩;have HB1 := Lib.hid (Below.then_ (HB0.out _ _) hb1);clear hb1
 go_wp2_with fail
 go_ret
 exact ⟨by rw [← Gu]; rfl, HB1.out⟩
end
section
open Go.RowKit
def Yv (w : World) (xs : List Int) (e : Ending) (w' : World) : Prop := ∃ g, e = .returned (.slice (some ⟨g, 0, none⟩) xs.length xs.length) ∧ w.heap.size ≤ g ∧ OwnI w' w.heap.size (.slice (some ⟨g, 0, none⟩) xs.length xs.length) xs ∧ Below w.heap.size w w'
set_option maxRecDepth 100000 in
set_option maxHeartbeats 1000000 in
theorem Ao (n : Nat) (w : World) (hn : n ≤ 1048576) :
 Calls Tryz.prog 78 #[.int .i64 n] w (Yv w (dh n)) := by
 have hmk := fun W => Go.run_make_row' (P := Tryz.prog) 25 3 (.int .i64 0) 8 Tryz.underlying25 pg rfl .i64 .i64 n (by omega) (by omega) W;have HR0 := Lib.hid (World.rowIs_made w (.int .i64 0) n 3);have HB0 := Lib.hid ((Below.refl w.heap.size w).alloc (Nat.le_refl _) (.cells (madeCells #[.int .i64 0] n) 3))
 go_enter Tryz.func78, Tryz.ntmps78
 go_wp2
 clear hmk
 go_loopw [9] (fun i wr => ∃ k : Nat, k ≤ n ∧ i = .int .i64 k ∧ wr.rowIs w.heap.size 3 n (fun i => if i < k then .int .i64 i else .int .i64 0) ∧ Below w.heap.size w wr) (fun i _ => n - (intOf i).toNat)
 case atStart => exact ⟨0, Nat.zero_le _, rfl, by simpa using HR0.out, HB0.out⟩
 case round =>
  obtain ⟨k, hk, rfl, hrow, hbel⟩ := hrel;have HRW := Lib.hid hrow;have HBE := Lib.hid hbel
  by_cases hlt : k < n
  ·have c1 := hrow.cell hlt;have f1 := hrow.frozen k;clear hrow hbel
   go_wp2
   go_roundw
   case rel =>
    refine ⟨k + 1, by omega, by go_num, (HRW.out.set k (.int .i64 k)).congr fun i hi => ?_, HBE.out.setCell (Nat.le_refl _) _⟩
    by_cases h1 : i = k
    ·subst h1; simp
    ·by_cases h2 : i < k
     ·simp [h1, h2, show i < k + 1 by omega]
     ·simp [h1, h2, show ¬ i < k + 1 by omega]
   case measure => simp [intOf]; omega
  ·obtain rfl : k = n := by omega
   clear hrow hbel
   go_wp2
   go_ret
   refine ⟨w.heap.size, by rw [dp]; rfl, Nat.le_refl _, ?_, HBE.out⟩;rw [dp];exact OwnI.of_rowIs (HRW.out.congr fun i hi => by simp [hi, ne hi]) (dp _) (Nat.le_refl _) (by unfold maxLen; omega)
end
section
open Go.RowKit
theorem Qo : (Tryz.prog.info? 4).map (fun i => (i.zero, i.size, i.bytes)) = some (some (.bool false), 1, 1) := by kernel_rfl
theorem An {xs : List Int} {n k : Nat} (h : gw xs n k) (h1 : inB (gi xs k) 0 ((n : Int) - 1) = true) (h2 : i4 (xs.take k) (gi xs k) = false) : gw xs n (k + 1) := fun i hi => by
 rcases Nat.lt_or_ge i k with hl | hg
 ·exact h i hl
 ·obtain rfl : i = k := by omega
  exact ⟨h1, h2⟩
theorem qw {xs : List Int} {n : Nat} : dc xs n = true ↔ gw xs n xs.length ∧ xs.length = n := by simp [dc]
theorem Ex {xs : List Int} {n k : Nat} (hk : k < xs.length) (h : ¬ (inB (gi xs k) 0 ((n : Int) - 1) = true ∧ i4 (xs.take k) (gi xs k) = false)) : dc xs n = false := by
 rw [← Bool.not_eq_true, qw];rintro ⟨hp, -⟩;exact h (hp k hk)
set_option maxRecDepth 100000 in
set_option maxHeartbeats 2000000 in
theorem td {S : Nat → Prop} (v : Value) (xs : List Int) (n : Nat) (w : World) (h : IntsR w S v xs) (hn : n ≤ 1048576) :
 Calls Tryz.prog 63 #[v, .int .i64 n] w (ot w (.bool (dc xs n))) := by
 have hb := h.bound;have HR := Lib.hid h;obtain ⟨A, c, rfl, hnc, hm, hx⟩ := h;have HX := Lib.hid hx;clear hx hm
 by_cases hl : xs.length = n
 ·have HL := Lib.hid hl;have e1 : ((xs.length : Int) != (n : Int)) = false := by rw [hl]; simp
  have hmk := fun W => Go.run_make_row' (P := Tryz.prog) 93 4 (.bool false) 1 Tryz.underlying93 Qo rfl .i64 .i64 n (by omega) (by omega) W;have HRI := Lib.hid (World.rowIs_made w (.bool false) n 4);have HB0 := Lib.hid ((Below.refl w.heap.size w).alloc (Nat.le_refl _) (.cells (madeCells #[.bool false] n) 4));have hw1 : IntKind.i64.wrap ((n : Int) - 1) = (n : Int) - 1 := IntWalk.i64_in _ (by omega);have hxl : xs.length ≤ 1048576 := by omega
  clear hl
  go_enter Tryz.func63, Tryz.ntmps63
  go_wp2_with fail
  clear hmk
  generalize w.alloc (.cells (madeCells #[.bool false] n) 4) = wa at *
  go_loopw [16] (fun x16 wr => ∃ k : Nat, k ≤ xs.length ∧ x16 = .int .i64 k ∧ gw xs n k ∧ wr.rowIs w.heap.size 4 n (fun j => .bool (i4 (xs.take k) (j : Int))) ∧ Below w.heap.size w wr) (fun x16 _ => xs.length - (intOf x16).toNat)
  case atStart => exact ⟨0, Nat.zero_le _, rfl, fun i hi => absurd hi (Nat.not_lt_zero _), HRI.out.congr fun i _ => by simp [i4], HB0.out⟩
  case round =>
   obtain ⟨k, hk, rfl, hp, hri, hbel⟩ := hrel;obtain ⟨wr2, rfl⟩ : ∃ wr2, wr2 = wr := ⟨_, rfl⟩;have HP := Lib.hid hp;have HI := Lib.hid hri;have HB := Lib.hid hbel;clear hp hri hbel
   by_cases hlt : k < xs.length
   ·obtain ⟨b, off, rfl, -, hc⟩ := HX.out (by omega);have c0 := hc k hlt;have c1 : wr2.cell? ⟨b, off + k, none⟩ = some (.int .i64 (gi xs k)) := (HB.out.cell (p := ⟨b, off + k, none⟩) (bf c0)).trans c0;have i0 : (0 : Int) ≤ (k : Int) := by omega
    have i1 : (k : Int) < (xs.length : Int) := by omega
    obtain ⟨x, hx⟩ : ∃ x, x = gi xs k := ⟨_, rfl⟩;rw [← hx] at c1;have HXX := Lib.hid hx;obtain ⟨g, hg⟩ : ∃ g, g = inB x 0 ((n : Int) - 1) := ⟨_, rfl⟩;have CI := Lib.hid (fun W => (by have := di x 0 ((n : Int) - 1) W; rw [← hg] at this; exact this : Calls Tryz.prog 92 #[.int .i64 x, .int .i64 0, .int .i64 ((n : Int) - 1)] W (RetQ W (.bool g))));have HG := Lib.hid hg;clear hc c0 hx hg
    cases g with
    | false =>
     have HV := Lib.hid (Ex (n := n) hlt (by rw [← HXX.out, ← HG.out]; simp))
     go_wp2_with (go_at_call 92; refine (CI.out _).mono ?_; rintro e w' ⟨rfl, rfl⟩)
     go_ret
     exact ⟨by rw [HV.out]; rfl, HB.out⟩
    | true =>
     have hr := ce.1 HG.out.symm;obtain ⟨q, rfl⟩ : ∃ q : Nat, x = (q : Int) := ⟨x.toNat, by omega⟩;have hq1 : (0 : Int) ≤ (q : Int) := by omega
     have hq2 : (q : Int) < (n : Int) := by omega
     have hqn : q < n := by omega
     obtain ⟨sb, hsb⟩ : ∃ sb, sb = i4 (xs.take k) (q : Int) := ⟨_, rfl⟩;have c2 := HI.out.cell hqn;have c3 := HI.out.frozen q;simp only [← hsb] at c2;have HSB := Lib.hid hsb;clear hsb hr
     cases sb with
     | true =>
      have HV := Lib.hid (Ex (n := n) hlt (by rw [← HXX.out, ← HSB.out]; simp))
      go_wp2_with (go_at_call 92; refine (CI.out _).mono ?_; rintro e w' ⟨rfl, rfl⟩)
      go_ret
      exact ⟨by rw [HV.out]; rfl, HB.out⟩
     | false =>
      have F1 := Lib.hid (An HP.out (by rw [← HXX.out]; exact HG.out.symm) (by rw [← HXX.out]; exact HSB.out.symm))
      have F2 := Lib.hid ((HI.out.set q (.bool true)).congr (g := fun j => .bool (i4 (xs.take (k + 1)) (j : Int))) fun j hj => by
       rw [Mo hlt, ← HXX.out]
       by_cases e : j = q
       ·subst e; simp
       ·rw [if_neg e];have : ((q : Int) == (j : Int)) = false := by rw [beq_eq_false_iff_ne]; omega
        rw [this, Bool.or_false])
      have F3 := Lib.hid (HB.out.setCell (p := ⟨w.heap.size, q, none⟩) (Nat.le_refl _) (.bool true))
      go_wp2_with (go_at_call 92; refine (CI.out _).mono ?_; rintro e w' ⟨rfl, rfl⟩)
      go_roundw
      case rel => exact ⟨k + 1, by omega, by go_num, F1.out, F2.out, F3.out⟩
      case measure => simp [intOf]; omega
   ·obtain rfl : k = xs.length := by omega
    have HV : Hid (dc xs n = true) := Lib.hid (qw.2 ⟨HP.out, HL.out⟩)
    go_wp2_with fail
    go_ret
    exact ⟨by rw [HV.out]; rfl, HB.out⟩
 ·have e1 : ((xs.length : Int) != (n : Int)) = true := by rw [bne_iff_ne]; omega
  have HV : Hid (dc xs n = false) := Lib.hid (by rw [← Bool.not_eq_true, qw]; rintro ⟨-, h⟩; exact hl h);clear hl
  go_enter Tryz.func63, Tryz.ntmps63
  go_wp2_with fail
  go_ret
  exact ⟨by rw [HV.out]; rfl, Below.refl _ _⟩
end
end Go.Proofs.YtolpiolnhgpjjaaGreat
