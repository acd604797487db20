/- The program's order of nodes by depth; digits of numbers; the library's Max at slices of int. -/
import Derived.Test.YtlaahgdikiiahaaGreatCJn39
import Derived.Test.YtlaahgdikiiahaaGreatCJn8
import Derived.Test.YtlaahgdikiiahaaGreatCIm5
import Derived.Test.YtlaahgdikiiahaaGreatCJn35
set_option linter.unusedSimpArgs false
set_option linter.unusedVariables false
namespace Go.Proofs.YtlaahgdikiiahaaGreat
open Go.RowKit
set_option maxRecDepth 100000 in
theorem upwards_clo (x y : Nat) (dx dy : Int) (b : Nat) (gd off n c : Nat) (w : World) (hb : w.cell? ⟨b, 0, none⟩ = some (.slice (some ⟨gd, off, none⟩) n c)) (hx : x < n) (hy : y < n)
 (cx : w.cell? ⟨gd, off + x, none⟩ = some (.int .i64 dx)) (cy : w.cell? ⟨gd, off + y, none⟩ = some (.int .i64 dy)) (hd : 0 ≤ dx ∧ dx ≤ 1048576 ∧ 0 ≤ dy ∧ dy ≤ 1048576) :
 Calls Tryz.prog 92 #[.int .i64 x, .int .i64 y, .pointer (some ⟨b, 0, none⟩)] w (RetD w (.int .i64 (dy - dx))) := by
 obtain ⟨d1, d2, d3, d4⟩ := hd
 have hw1 : IntKind.i64.wrap (dy - dx) = dy - dx := IntWalk.i64_in _ (by omega)
 have i1 : (0 : Int) ≤ (x : Int) := by omega
 have i2 : (x : Int) < (n : Int) := by omega
 have i3 : (0 : Int) ≤ (y : Int) := by omega
 have i4 : (y : Int) < (n : Int) := by omega
 go_enter Tryz.func92, Tryz.ntmps92
 go_wp2
 go_quiet (fail)
 go_wp2
 go_ret
 exact ⟨rfl, _, rfl⟩
def RetUw (w : World) (ds : List Int) (e : Ending) (w' : World) : Prop := ∃ (v : Value) (od : List Int), e = .returned v ∧ OwnI w' w.heap.size v od ∧ od.Perm (upTo ds.length) ∧ SortedOn (fun x => - gi ds x.toNat) od 0 ds.length ∧ Below w.heap.size w w'
set_option maxRecDepth 100000 in
set_option maxHeartbeats 1000000 in
theorem upwards_any {S : Nat → Prop} (v : Value) (ds : List Int) (w : World) (h : IntsR w S v ds) (hp : 0 < ds.length) (hn : ds.length ≤ 1048576) (hd : ∀ j, j < ds.length → 0 ≤ gi ds j ∧ gi ds j ≤ 1048576) :
 Calls Tryz.prog 46 #[v] w (RetUw w ds) := by
 obtain ⟨A, c, rfl, hnc, hm, hx⟩ := h
 obtain ⟨gd, off, rfl, -, hc⟩ := hx hp
 have HC := Lib.hid hc
 have HD := Lib.hid hd
 have hgd := lt_of_cell (hc 0 hp)
 obtain ⟨n, hnn⟩ : ∃ n, n = ds.length := ⟨_, rfl⟩
 have hb0 : Below w.heap.size w (w.alloc (.cells #[.slice (some ⟨gd, off, none⟩) n c] 25)) := (Below.refl _ _).alloc (Nat.le_refl _) _
 have HB0 := Lib.hid hb0
 have HN := Lib.hid hnn
 rw [← hnn] at hp hn ⊢
 clear hx hc hd hnc hm hnn hb0
 go_enter Tryz.func46, Tryz.ntmps46
 go_wp2_with fail
 refine (numbersTo_any n _ hn).mono ?_
 rintro e w1 ⟨g, rfl, hg, ho, hb1⟩
 rw [upTo_length] at ho ⊢
 simp only [World.size_alloc] at hg
 have hk : Blk w1 w.heap.size 25 #[.slice (some ⟨gd, off, none⟩) n c] := Blk.below (Blk.new w _ _) hb1
 have HK := Lib.hid hk
 have HO := Lib.hid ho
 have HB1 := Lib.hid (Below.then_ HB0.out hb1)
 clear ho hb1 hk
 have hcc : CmpC w1 g 92 #[.pointer (some ⟨w.heap.size, 0, none⟩)] (fun x y => gi ds y.toNat - gi ds x.toNat) (fun x => - gi ds x.toNat) (fun x => 0 ≤ x ∧ x < n) := by
  refine ⟨Enters.of Tryz.func92 (by kernel_rfl) rfl, fun x y W hx hy hW => ?_, fun x y hx hy => ⟨fun h => by omega, fun h => by omega⟩⟩
  obtain ⟨x', rfl⟩ := Int.eq_ofNat_of_zero_le hx.1
  obtain ⟨y', rfl⟩ := Int.eq_ofNat_of_zero_le hy.1
  have hx2 : x' < n := by omega
  have hy2 : y' < n := by omega
  have hkW : Blk W w.heap.size 25 #[.slice (some ⟨gd, off, none⟩) n c] := HK.out.grown hW (by simp; omega)
  have hcell : ∀ j, j < n → W.cell? ⟨gd, off + j, none⟩ = some (.int .i64 (gi ds j)) := fun j hj => by
   rw [World.cell?_of_block (w := w1) (hW.block gd (by have := HB1.out.size; omega) (by simp; omega)), HB1.out.cell (by exact hgd)]
   exact HC.out j (by have := HN.out; omega)
  have a1 := HD.out x' (by have := HN.out; omega)
  have a2 := HD.out y' (by have := HN.out; omega)
  exact upwards_clo x' y' _ _ w.heap.size gd off n c W (by rw [hkW.cell]; rfl) hx2 hy2 (hcell x' hx2) (hcell y' hy2) ⟨a1.1, a1.2, a2.1, a2.2⟩
 have CS := Lib.hid (SortStable_any w1 (w.heap.size + 1) g n n 92 _ _ _ _ hcc (upTo n) w1 (by simpa using HO.out) (upTo_length n).symm hn (fun x hx => upTo_mem.1 hx) (World.grownBy.refl _ _))
 clear hcc
 go_wp2_with fail
 refine CS.out.mono ?_
 rintro e w2 ⟨d', rfl, ho2, ⟨hs1, hs2⟩, hg2⟩
 have HF : Hid (RetUw w ds (.returned (.slice (some ⟨g, 0, none⟩) n n)) w2) := by
  refine ⟨_, d', rfl, ho2.mono (by omega), by rw [← HN.out]; exact hs1, by rw [← HN.out]; exact hs2, ?_⟩
  exact HB1.out.grown hg2 HB1.out.size (fun k hk => by cases hk; omega)
 clear ho2 hs1 hs2 hg2
 go_wp2_with fail
 go_ret
 exact HF.out
theorem bitsOf_any (x : Int) (w : World) (h1 : -1000000000000 ≤ x) (h2 : x ≤ 1000000000000) : Calls Tryz.prog 47 #[.int .i64 x] w (RetQ w (.int .i64 (bitsN x.natAbs))) := by
 have CL := Lib.hid (fun (q : Int) (W : World) (h0 : 0 ≤ q) (h1 : q ≤ 18446744073709551615) => Tryz.bits_Len64 q W h0 h1)
 go_enter Tryz.func47, Tryz.ntmps47
 go_wp2_with fail
 rw [show max x (-x) = ((x.natAbs : Nat) : Int) by omega]
 refine (CL.out _ _ (by omega) (by omega)).mono ?_
 rw [Int.toNat_natCast]
 have HE : Hid ((bitsN x.natAbs : Int) = max (Lib.bitLen x.natAbs : Int) 1) := by show (bitsN x.natAbs : Int) = max (Lib.bitLen x.natAbs : Int) 1; unfold bitsN; omega
 obtain ⟨bx, hbx⟩ : ∃ bx, bx = bitsN x.natAbs := ⟨_, rfl⟩
 rw [← hbx] at HE
 have HBX := Lib.hid hbx
 clear hbx
 generalize Lib.bitLen x.natAbs = y at HE ⊢
 rintro e w1 ⟨rfl, rfl⟩
 go_wp2_with fail
 go_ret
 exact ⟨by rw [← HBX.out, HE.out]; rfl, rfl⟩
theorem maxOf_is : ∀ (zs : List Int), 0 < zs.length → IsMax zs (Lib.maxOf zs) := by
 have key : ∀ (zs : List Int) (a : Int), a ≤ zs.foldl max a ∧ (∀ x ∈ zs, x ≤ zs.foldl max a) ∧ (zs.foldl max a = a ∨ zs.foldl max a ∈ zs) := by
  intro zs
  induction zs with
  | nil => intro a; exact ⟨Int.le_refl _, (fun x hx => by cases hx), .inl rfl⟩
  | cons z zs ih =>
   intro a
   obtain ⟨h1, h2, h3⟩ := ih (max a z)
   simp only [List.foldl_cons]
   refine ⟨by omega, fun x hx => ?_, ?_⟩
   ·rcases List.mem_cons.1 hx with rfl | hx
    ·omega
    ·exact h2 x hx
   ·rcases h3 with h3 | h3
    ·rw [h3]
     by_cases e : z ≤ a
     ·exact .inl (by omega)
     ·right; rw [show max a z = z by omega]; exact List.mem_cons_self
    ·exact .inr (List.mem_cons_of_mem _ h3)
 intro zs hp
 match zs, hp with
 | z :: zs, _ =>
  have hm : Lib.maxOf (z :: zs) = zs.foldl max z := by simp [Lib.maxOf]
  obtain ⟨h1, h2, h3⟩ := key zs z
  rw [hm]
  refine ⟨fun v hv => ?_, ?_⟩
  ·have hx : gi (z :: zs) v ∈ z :: zs := by rw [gi_lt hv]; exact List.getElem_mem hv
   rcases List.mem_cons.1 hx with e | hx
   ·omega
   ·exact h2 _ hx
  ·have hx : zs.foldl max z ∈ z :: zs := by
    rcases h3 with h3 | h3
    ·rw [h3]; exact List.mem_cons_self
    ·exact List.mem_cons_of_mem _ h3
   obtain ⟨k, hk, e⟩ := List.getElem_of_mem hx
   exact ⟨k, hk, by rw [gi_lt hk]; exact e⟩
def RetMax (w : World) (xs : List Int) (e : Ending) (w' : World) : Prop := ∃ h, e = .returned (.int .i64 h) ∧ IsMax xs h ∧ w = w'
theorem Max_any {S : Nat → Prop} (v : Value) (xs : List Int) (w : World) (h : IntsR w S v xs) (hp : 0 < xs.length) : Calls Tryz.prog 48 #[v] w (RetMax w xs) := by
 have hb := h.bound
 obtain ⟨A, c, rfl, hnc, hm, hx⟩ := h
 obtain ⟨b, off, rfl, -, hc⟩ := hx hp
 refine (Tryz.slices_Max_int b off xs.length c xs w hp (Nat.le_refl _) hb hc).mono ?_
 rintro e w1 ⟨rfl, rfl⟩
 exact ⟨_, rfl, by rw [List.take_length]; exact maxOf_is xs hp, rfl⟩
end Go.Proofs.YtlaahgdikiiahaaGreat
