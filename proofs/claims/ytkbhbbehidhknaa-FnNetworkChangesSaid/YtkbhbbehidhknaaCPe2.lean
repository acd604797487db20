/- The program's EdgesOf. Printed by gen_pe2.py. -/
import Derived.Test.YtkbhbbehidhknaaCJn18
import Derived.Test.YtkbhbbehidhknaaCPe1
namespace Go.Proofs.Ytkbhbbehidhknaa
open Go.RowKit

/-- a slice's head, as an element -/
abbrev Hd := Option Addr × Nat × Nat
def encHd : Enc Hd := ⟨1, fun r => [.slice r.1 r.2.1 r.2.2], fun _ => rfl, by omega, fun x v hv => by simp at hv; subst hv; rfl⟩
theorem elemHd : Nonempty (ElemT Try.prog encHd 44 25) := ElemT.of (z := .slice none 0 0) (n := 1) (bytes := 24) (by kernel_rfl) (by kernel_rfl) rfl rfl (by omega)
theorem SlR.oneHd {w : World} {g : Nat} {t : TypeId} {a : Option Addr} {b c : Nat} (h : Blk w g t #[.slice a b c]) : SlR encHd w (fun _ => True) (.slice (some ⟨g, 0, none⟩) 1 1) [((a, b, c) : Hd)] := SlR.one (E := encHd) (x := (a, b, c)) h
theorem OwnG.atE4 {T : TypeId} {w : World} {B g n cap j : Nat} {xs : List E4} (h : OwnG encE4 T w B (.slice (some ⟨g, 0, none⟩) n cap) xs) (hj : j < xs.length) :
    ∃ x0 x1 x2 x3 : Int, w.cell? ⟨g, j * 4, none⟩ = some (.int .i64 x0) ∧ w.cell? ⟨g, j * 4 + 1, none⟩ = some (.int .i64 x1) ∧ w.cell? ⟨g, j * 4 + 2, none⟩ = some (.int .i64 x2) ∧ w.cell? ⟨g, j * 4 + 3, none⟩ = some (.int .i64 x3) := by
  obtain ⟨h1, -⟩ := h.at_ hj
  have a0 := h1 0 (by decide)
  have a1 := h1 1 (by decide)
  have a2 := h1 2 (by decide)
  have a3 := h1 3 (by decide)
  exact ⟨_, _, _, _, a0, a1, a2, a3⟩
/-- the answer of EdgesOf: how many -/
def RetEg (w : World) (N : Net) (e : Ending) (w' : World) : Prop :=
  Below w.heap.size w w' ∧ ∃ (A : Option Addr) (c n : Nat), e = .returned (.tuple #[.slice A n c, .bool (goodB N)]) ∧ (goodB N = true → n = edgeN N.ends ∧ n ≤ 240)

set_option maxRecDepth 100000 in
set_option maxHeartbeats 4000000 in
theorem EdgesOf_any {S : Nat → Prop} (u : Value) (N : Net) (w : World) (h : NetR w S u N) (hid : N.ids.length ≤ 2097152) :
    Calls Try.prog 17 #[u] w (RetEg w N) := by
  have HN := Lib.hid h
  obtain ⟨ve, vi, vn, rfl, he, hi, hn⟩ := h
  obtain ⟨A, c, rfl, -, -, -⟩ := he
  obtain ⟨A1, c1, rfl, -, -, -⟩ := hi
  obtain ⟨A2, c2, rfl, -, -, -⟩ := hn
  obtain ⟨wz, hwz⟩ : ∃ wz, wz = w.alloc (.cells #[.slice A N.ends.length c, .slice A1 N.ids.length c1, .slice A2 N.inputs.length c2] 27) := ⟨_, rfl⟩
  have hzs : wz.heap.size = w.heap.size + 1 := by rw [hwz]; simp
  have hbz : Below w.heap.size w wz := by rw [hwz]; exact (Below.refl _ _).alloc (by simp) _
  have HK : Hid (Blk wz w.heap.size 27 #[.slice A N.ends.length c, .slice A1 N.ids.length c1, .slice A2 N.inputs.length c2]) := Lib.hid (by rw [hwz]; exact Blk.new w _ _)
  have HB0 := Lib.hid hbz
  have HZ := Lib.hid hwz
  obtain ⟨g1, hg1⟩ : ∃ g, g = goodB N := ⟨_, rfl⟩
  have CN := Lib.hid (IsNetwork_any _ N wz (h := HN.out.below HB0.out) (by omega))
  rw [← hg1] at CN
  have HG := Lib.hid hg1
  clear hwz hbz hg1
  go_enter Try.func17, Try.ntmps17
  go_upto_region 1 with fail
  rw [← HZ.out]
  clear HZ
  have ka := HK.out.cell
  cases g1 with
  | false =>
    go_wp2_with (go_at_call 21; refine CN.out.mono ?_; rintro e w1 ⟨rfl, hb1⟩; have HB1 := Lib.hid (Below.then_ HB0.out hb1); clear hb1)
    exact bodyPost_ret (v := .tuple #[.slice none 0 0, .bool false]) (by simp [results, Try.results17, go_sem]) rfl ⟨HB1.out, none, 0, 0, by rw [← HG.out], fun h => by rw [← HG.out] at h; cases h⟩
  | true =>
    have hgd := goodB_iff.1 HG.out.symm
    have hl40 : N.ends.length ≤ 40 := by have := inB_iff.1 hgd.1; omega
    have HD6 := Lib.hid (endsOk_iff.1 hgd.2.2.2.2).1
    clear hgd
    go_upto_region 3 with (go_at_call 21; refine CN.out.mono ?_; rintro e w1 ⟨rfl, hb1⟩; have HB1 := Lib.hid hb1; have kb1 := (HK.out.below hb1).cell; clear hb1)
    clear ka
    go_upto_region 5 with (go_at_call 47; refine (edges_any _ N w1 ((HN.out.below HB0.out).below HB1.out) hl40 HD6.out).mono ?_; rintro e w2 ⟨hb2, Ae, ce, xs, hxl, rfl, hoe, hx240⟩; have HB2 := Lib.hid (Below.then_ HB1.out hb2); have HOE := Lib.hid hoe; have HXL := Lib.hid hxl; clear hb2 hoe hxl)
    have hz2 := HB2.out.size
    clear kb1
    go_loopw [4, 13] (fun x4 x13 wr => ∃ (k : Nat) (Ao : Option Addr) (co : Nat) (L : List Hd), k ≤ xs.length ∧ x13 = .int .i64 k ∧ x4 = .slice Ao L.length co ∧ L.length = k ∧ OwnG encHd 25 wr w2.heap.size (.slice Ao L.length co) L ∧ Below w2.heap.size w2 wr)
      (fun _ x13 _ => xs.length - (intOf x13).toNat)
    case atStart => exact ⟨0, none, 0, [], Nat.zero_le _, rfl, rfl, rfl, OwnG.nil, Below.refl _ _⟩
    case round =>
      obtain ⟨k, Ao, co, L, hk, rfl, rfl, hLk, hown, hbel⟩ := hrel
      obtain ⟨wr2, rfl⟩ : ∃ wr2, wr2 = wr := ⟨_, rfl⟩
      have HOW := Lib.hid hown
      have HBE := Lib.hid hbel
      clear hown hbel
      by_cases hlt : k < xs.length
      · obtain ⟨ge, capE, hAE, -, -, -, hcap⟩ := HOE.out.addr (by omega)
        simp only [Value.slice.injEq] at hAE
        obtain ⟨rfl, -, rfl⟩ := hAE
        obtain ⟨x0, x1, x2, x3, a0, a1, a2, a3⟩ := (HOE.out.below HBE.out).atE4 hlt
        have jv1 : (0 : Int) ≤ (k : Int) := by omega
        have jv2 : (k : Int) < (xs.length : Int) := by omega
        have hzb := HBE.out.size
        have kE := (Blk.new wr2 73 #[.int .i64 x0, .int .i64 x1, .int .i64 x2, .int .i64 x3]).cell
        go_upto_region 7 with fail
        have HB3 : Hid (Below wr2.heap.size wr2 (((wr2.alloc (.cells #[.int .i64 x0, .int .i64 x1, .int .i64 x2, .int .i64 x3] 73)).alloc (.cells #[.int .i64 x0, .int .i64 x1, .int .i64 x2, .int .i64 x3] 3)).alloc (.cells #[.slice (some ⟨wr2.heap.size + 1, 0, none⟩) 4 4] 25))) := Lib.hid ((((Below.refl _ _).alloc (Nat.le_refl _) _).alloc (by simp) _).alloc (by simp; omega) _)
        have HK3 : Hid (Blk (((wr2.alloc (.cells #[.int .i64 x0, .int .i64 x1, .int .i64 x2, .int .i64 x3] 73)).alloc (.cells #[.int .i64 x0, .int .i64 x1, .int .i64 x2, .int .i64 x3] 3)).alloc (.cells #[.slice (some ⟨wr2.heap.size + 1, 0, none⟩) 4 4] 25)) (wr2.heap.size + 1 + 1) 25 #[.slice (some ⟨wr2.heap.size + 1, 0, none⟩) 4 4]) := Lib.hid (by
          have := Blk.new ((wr2.alloc (.cells #[.int .i64 x0, .int .i64 x1, .int .i64 x2, .int .i64 x3] 73)).alloc (.cells #[.int .i64 x0, .int .i64 x1, .int .i64 x2, .int .i64 x3] 3)) 25 #[.slice (some ⟨wr2.heap.size + 1, 0, none⟩) 4 4]
          rwa [World.size_alloc, World.size_alloc] at this)
        clear a0 a1 a2 a3
        go_upto_region 8 with (at_builtin; go_loud (refine wpList_append_G elemHd _ rfl (.tmp 17) (.tmp 27) rfl w2.heap.size (.slice Ao L.length co) L rfl (HOW.out.below HB3.out) (.slice (some ⟨wr2.heap.size + 1 + 1, 0, none⟩) 1 1) [((some ⟨wr2.heap.size + 1, 0, none⟩, 4, 4) : Hd)] rfl (SlR.oneHd HK3.out) (by simp; omega) (by simp; omega) ?_; intro A8 c8 w8 ho8 hg8 hl8))
        have HO8 := Lib.hid ho8
        have HB8 := Lib.hid ((HBE.out.trans (HB3.out.mono hzb)).grown hg8 (by simp; omega) (fun q hq => (HOW.out.lt q hq).1))
        clear ho8 hg8 hl8 kE
        go_wp2_with fail
        go_roundw
        case rel => exact ⟨k + 1, A8, c8, L ++ [(some ⟨wr2.heap.size + 1, 0, none⟩, 4, 4)], by omega, by go_num, by simp [hLk], by rw [List.length_append, hLk]; rfl, by rw [List.length_append]; exact HO8.out, HB8.out⟩
        case measure => simp [intOf]; omega
      · obtain rfl : k = xs.length := by omega
        have hjx : ¬ ((xs.length : Int) < (xs.length : Int)) := by omega
        have HB9 := Lib.hid (Below.then_ (Below.then_ HB0.out HB2.out) HBE.out)
        go_wp2_with fail
        exact bodyPost_ret (v := .tuple #[.slice Ao L.length co, .bool true]) (by simp [results, Try.results17, go_sem, hLk]) rfl ⟨HB9.out, Ao, co, L.length, by rw [← HG.out], fun _ => ⟨by rw [hLk, HXL.out], by omega⟩⟩
end Go.Proofs.Ytkbhbbehidhknaa
