/- Parts of the proof, joined: Wr1, Dig. -/
import Derived.Test.YtljjbhihllnnaaaGreatCJn23
import Derived.Test.YtljjbhihllnnaaaGreatCJn3
import Derived.Test.YtljjbhihllnnaaaGreatCJn4
import Derived.Test.YtljjbhihllnnaaaGreatShelf
import Derived.Lib.Builder
import Derived.Deep.RegionHeld3
namespace Go.Proofs.YtljjbhihllnnaaaGreat
open Go.RowKit

def encB : Enc UInt8 := ⟨1, fun x => [.int .u8 (x.toNat : Nat)], fun _ => rfl, by omega, fun x v hv => by simp at hv; subst hv; rfl⟩
theorem encB_cells (l : List UInt8) : encB.cells l = Lib.byteCells l := by
  simp [Enc.cells, encB, Lib.byteCells, List.flatMap_def]
  induction l with
  | nil => rfl
  | cons x l ih => simp [ih]
theorem byteT : Nonempty (ElemT Tryz.prog encB 22 5) := ElemT.of (z := .int .u8 0) (n := 1) (bytes := 1) Tryz.underlying22 (by kernel_rfl) rfl rfl (by omega)

/-- a builder in a block of its own that holds the bytes l; p: its mark against copies -/
def BldAt (w : World) (B b : Nat) (p : Value) (l : List UInt8) : Prop := B ≤ b ∧ ∃ v, Blk w b 86 #[p, v] ∧ OwnG encB 5 w B v l ∧ v.ownBlock ≠ some b
def BldR (w : World) (B b : Nat) (l : List UInt8) : Prop := BldAt w B b (.pointer none) l ∨ BldAt w B b (.pointer (some ⟨b, 0, none⟩)) l
theorem BldAt.lib {w : World} {B b : Nat} {p : Value} {l : List UInt8} (h : BldAt w B b p l) : Lib.BuilderAt 86 5 B b p (Lib.byteCells l) w := by
  obtain ⟨h1, v, h2, h3, h4⟩ := h
  refine ⟨h1, v, h2, ?_, h4⟩
  have := h3
  unfold OwnG at this
  rw [encB_cells] at this
  rw [show (Lib.byteCells l).length = l.length by simp [Lib.byteCells]]
  exact this
theorem BldR.lib {w : World} {B b : Nat} {l : List UInt8} (h : BldR w B b l) : Lib.IsBuilder 86 5 B b (Lib.byteCells l) w := h.imp BldAt.lib BldAt.lib
theorem BldAt.below {w w' : World} {B b : Nat} {p : Value} {l : List UInt8} (h : BldAt w B b p l) (hb : Below w.heap.size w w') : BldAt w' B b p l := by
  obtain ⟨h1, v, h2, h3, h4⟩ := h
  exact ⟨h1, v, h2.below hb, h3.below hb, h4⟩
theorem BldR.below {w w' : World} {B b : Nat} {l : List UInt8} (h : BldR w B b l) (hb : Below w.heap.size w w') : BldR w' B b l := h.imp (·.below hb) (·.below hb)
theorem BldAt.used {w : World} {B b : Nat} {p : Value} {l : List UInt8} (h : BldAt w B b p l) (q : Value) : BldAt (w.setCell ⟨b, 0, none⟩ q) B b q l := by
  obtain ⟨h1, v, h2, h3, h4⟩ := h
  refine ⟨h1, v, h2.put 0 q, h3.keepB fun g hg => Below.heap_setCell w _ _ g (fun e => h4 (by rw [hg]; exact congrArg some e)), h4⟩

def RetW (w : World) (B b : Nat) (l : List UInt8) (v : Value) (e : Ending) (w' : World) : Prop := e = .returned v ∧ BldAt w' B b (.pointer (some ⟨b, 0, none⟩)) l ∧ Below B w w'

def RetC (w : World) (B b : Nat) (l : List UInt8) (e : Ending) (w' : World) : Prop := e = .returned (.tuple #[]) ∧ BldAt w' B b (.pointer (some ⟨b, 0, none⟩)) l ∧ w.grownBy w' (some b)

set_option maxRecDepth 100000 in
set_option maxHeartbeats 1000000 in
theorem copyCheck_any (B b : Nat) (l : List UInt8) (w : World) (h : BldR w B b l) : Calls Tryz.prog 160 #[.pointer (some ⟨b, 0, none⟩)] w (RetC w B b l) := by
  have X : (Tryz.prog.info? 86).map (·.size) = some 2 := by kernel_rfl
  have XL : liesAt Tryz.prog Tryz.prog.depth 86 (2 / Tryz.prog.cellsOf 86) 0 86 1 = true := by kernel_rfl
  obtain ⟨j, hj, hjs⟩ := Option.map_eq_some_iff.1 X
  rcases h with h | h
  · have HH := Lib.hid h
    obtain ⟨hB, v, hk, ho, hne⟩ := h
    have hsh : w.shape? b = some (86, 2) := by unfold Blk at hk; simp [World.shape?, hk]
    have h0 : w.cell? ⟨b, 0, none⟩ = some (.pointer none) := by rw [hk.cell]; rfl
    have hf := hk.free 0
    clear hk ho hne
    go_enter Tryz.func160, Tryz.ntmps160
    go_wp2
    rw [Lib.run_to_unsafe w ⟨b, 0, none⟩ Tryz.underlying84 Tryz.underlying202 hj (by rw [hjs]; decide) hsh (Nat.zero_lt_succ 1)]
    simp only [Result.andThen]
    rw [Oper.upon_value]
    go_wp2
    rw [run_callFunc_extern Tryz.func180 (by kernel_rfl) (by kernel_rfl) (by kernel_rfl) (e := Extern.AbiNoEscape.same) (by kernel_rfl)]
    rw [Lib.run_noEscape]
    simp only [Result.andThen]
    rw [Oper.upon_value]
    go_wp2
    rw [Lib.run_from_unsafe w ⟨b, 0, none⟩ Tryz.underlying202 Tryz.underlying84 hj hsh XL]
    simp only [Result.andThen]
    rw [Oper.upon_value]
    go_wp2
    go_end0
    exact ⟨rfl, HH.out.used _, grown_set1 _ _ _ _⟩
  · have HH := Lib.hid h
    obtain ⟨hB, v, hk, ho, hne⟩ := h
    have h0 : w.cell? ⟨b, 0, none⟩ = some (.pointer (some ⟨b, 0, none⟩)) := by rw [hk.cell]; rfl
    clear hk ho hne
    go_enter Tryz.func160, Tryz.ntmps160
    go_wp2
    rw [Lib.run_neq_ptr_same w _ Tryz.underlying84 hj]
    go_wp2
    go_end0
    exact ⟨rfl, HH.out, World.grownBy.refl _ _⟩

theorem BldAt.grow {w w' : World} {B b : Nat} {p v : Value} {l m : List UInt8} {A : Option Addr} {n c : Nat} (hB : B ≤ b) (hk : Blk w b 86 #[p, v]) (hlt : B ≤ w.heap.size) (ho : OwnG encB 5 w B v l) (hne : v.ownBlock ≠ some b)
    (ho' : OwnG encB 5 w' B (.slice A n c) (l ++ m)) (hg : w.grownBy w' v.ownBlock) (hl : Lies w v (.slice A n c)) :
    Blk w' b 86 #[p, v] ∧ BldAt (w'.setCell ⟨b, 1, none⟩ (.slice A n c)) B b p (l ++ m) ∧ Below B w (w'.setCell ⟨b, 1, none⟩ (.slice A n c)) := by
  have hbl := hk.lt
  have hk' : Blk w' b 86 #[p, v] := (hg.block b hbl (fun e => hne e.symm)).trans hk
  have hne' : (Value.slice A n c).ownBlock ≠ some b := fun e => by
    rcases hl b e with h | h
    · exact hne h
    · omega
  refine ⟨hk', ⟨hB, _, hk'.put 1 _, ho'.keepB fun g hg2 => Below.heap_setCell w' _ _ g (fun e => hne' (by rw [hg2]; exact congrArg some e)), hne'⟩, ?_⟩
  exact ((Below.refl B w).grown hg hlt (fun k hk2 => (ho.lt k hk2).1)).setCell (p := ⟨b, 1, none⟩) hB _

/-- all blocks but b that are not of bytes are kept -/
def KeptT (b : Nat) (w w' : World) : Prop := w.heap.size ≤ w'.heap.size ∧ ∀ g cs t, g ≠ b → t ≠ 5 → Blk w g t cs → Blk w' g t cs
theorem KeptT.trans {b : Nat} {w w1 w2 : World} (h : KeptT b w w1) (h' : KeptT b w1 w2) : KeptT b w w2 := ⟨Nat.le_trans h.1 h'.1, fun g cs t h1 h2 h3 => h'.2 g cs t h1 h2 (h.2 g cs t h1 h2 h3)⟩
theorem KeptT.below {b : Nat} {w w' : World} (h : Below w.heap.size w w') : KeptT b w w' := ⟨h.size, fun _ _ _ _ _ h3 => h3.below h⟩
theorem KeptT.grownB {b : Nat} {w w' : World} (h : w.grownBy w' (some b)) : KeptT b w w' := ⟨h.size, fun g _ _ h1 _ h3 => (h.block g h3.lt (fun e => h1 (by cases e; rfl))).trans h3⟩
theorem KeptT.grow {b B : Nat} {w w' : World} {v u : Value} {l : List UInt8} (ho : OwnG encB 5 w B v l) (h : w.grownBy w' v.ownBlock) : KeptT b w (w'.setCell ⟨b, 1, none⟩ u) := by
  refine ⟨by have := h.size; simpa [World.setCell] using this, fun g cs t h1 h2 h3 => Blk.far ((h.block g h3.lt fun e => ?_).trans h3) h1 u⟩
  obtain ⟨cs', h4⟩ := ho.type g e.symm
  unfold Blk at h3
  rw [h3] at h4
  cases h4
  exact h2 rfl
def RetK (w : World) (B b : Nat) (l : List UInt8) (v : Value) (e : Ending) (w' : World) : Prop := RetW w B b l v e w' ∧ KeptT b w w'

set_option maxRecDepth 100000 in
set_option maxHeartbeats 1000000 in
theorem bldWriteK_any {S : Nat → Prop} (B b : Nat) (l m : List UInt8) (u : Value) (w : World) (h : BldR w B b l) (hu : SlR encB w S u m) (hS : ∀ q, S q → q ≠ b) (hn : l.length + m.length ≤ 4000) (hB : B ≤ w.heap.size) :
    Calls Tryz.prog 107 #[.pointer (some ⟨b, 0, none⟩), u] w (RetK w B b (l ++ m) (.tuple #[.int .i64 (m.length : Nat), .nilIface])) := by
  have HU := Lib.hid hu
  have HS := Lib.hid hS
  obtain ⟨Au, cu, rfl, -, -, -⟩ := hu
  have HH := Lib.hid h
  clear h hS
  go_enter Tryz.func107, Tryz.ntmps107
  go_wp2_with fail
  refine (copyCheck_any B b l w HH.out).mono ?_
  rintro e w1 ⟨rfl, ⟨hBb, v, hk, ho, hne⟩, hg⟩
  have HU1 := Lib.hid (HU.out.keep (S' := S) (fun _ h => h) hg.size (fun q hq _ => hg.block q (by assumption) (fun e => HS.out q hq (by cases e; rfl))))
  have HB1 : Hid (Below B w w1) := Lib.hid ((Below.refl B w).grown hg hB (fun k hk => by cases hk; exact hBb))
  obtain ⟨Av, cv, rfl⟩ := ho.shape
  have HO := Lib.hid ho
  have HK := Lib.hid hk
  have HNE := Lib.hid hne
  have hB1 : B ≤ w1.heap.size := by have := HB1.out.size; omega
  have kc := hk.cell
  have KT1 := Lib.hid (KeptT.grownB hg)
  clear ho hk hne hg
  go_upto_region 3 with (refine wpList_append_G byteT (S := S) _ rfl (.tmp 12) (.tmp 13) rfl B (.slice Av l.length cv) l rfl HO.out _ m rfl HU1.out (by omega) hB1 ?_; intro A2 c2 w2 ho hg hl; obtain ⟨hk2, hb2, hl2⟩ := BldAt.grow hBb HK.out hB1 HO.out HNE.out ho hg hl; have kc2 := hk2.cell; have kf2 := hk2.free; have HB2 := Lib.hid hb2; have HL2 := Lib.hid hl2; have KT2 := Lib.hid (KeptT.grow (b := b) (u := .slice A2 (l.length + m.length) c2) HO.out hg); clear ho hg hl hk2 hb2 hl2)
  go_wp2_with fail
  go_ret2
  exact ⟨⟨rfl, HB2.out, HB1.out.trans HL2.out⟩, KT1.out.trans KT2.out⟩

theorem bldWrite_any {S : Nat → Prop} (B b : Nat) (l m : List UInt8) (u : Value) (w : World) (h : BldR w B b l) (hu : SlR encB w S u m) (hS : ∀ q, S q → q ≠ b) (hn : l.length + m.length ≤ 4000) (hB : B ≤ w.heap.size) :
    Calls Tryz.prog 107 #[.pointer (some ⟨b, 0, none⟩), u] w (RetW w B b (l ++ m) (.tuple #[.int .i64 (m.length : Nat), .nilIface])) :=
  (bldWriteK_any B b l m u w h hu hS hn hB).mono fun _ _ h => h.1

theorem SlR.oneB {w : World} {g : Nat} {t : TypeId} {x : UInt8} (h : Blk w g t #[.int .u8 (x.toNat : Nat)]) : SlR encB w (fun _ => True) (.slice (some ⟨g, 0, none⟩) 1 1) [x] := SlR.one (E := encB) (x := x) h

set_option maxRecDepth 100000 in
set_option maxHeartbeats 1000000 in
theorem bldWriteByteK_any (B b : Nat) (l : List UInt8) (x : UInt8) (z : Int) (hz : z = (x.toNat : Nat)) (w : World) (h : BldR w B b l) (hn : l.length + 1 ≤ 4000) (hB : B ≤ w.heap.size) :
    Calls Tryz.prog 109 #[.pointer (some ⟨b, 0, none⟩), .int .u8 z] w (RetK w B b (l ++ [x]) .nilIface) := by
  subst hz
  have HH := Lib.hid h
  clear h
  go_enter Tryz.func109, Tryz.ntmps109
  go_wp2_with fail
  refine (copyCheck_any B b l w HH.out).mono ?_
  rintro e w1 ⟨rfl, ⟨hBb, v, hk, ho, hne⟩, hg⟩
  have HB1 : Hid (Below B w w1) := Lib.hid ((Below.refl B w).grown hg hB (fun k hk => by cases hk; exact hBb))
  obtain ⟨Av, cv, rfl⟩ := ho.shape
  have HO := Lib.hid ho
  have HK := Lib.hid hk
  have HNE := Lib.hid hne
  have hB1 : B ≤ w1.heap.size := by have := HB1.out.size; omega
  have hb1 : Below w1.heap.size w1 (w1.alloc (.cells #[.int .u8 (x.toNat : Nat)] 5)) := (Below.refl _ _).alloc (Nat.le_refl _) _
  have HA1 := Lib.hid hb1
  have kc := hk.cell
  have KT1 := Lib.hid (KeptT.grownB hg)
  clear ho hk hne hg hb1
  go_upto_region 3 with (refine wpList_append_G byteT (S := fun _ => True) _ rfl (.tmp 11) (.tmp 13) rfl B (.slice Av l.length cv) l rfl (HO.out.below HA1.out) _ [x] rfl (SlR.oneB (Blk.newAt rfl)) (by simp; omega) (by simp; omega) ?_; intro A2 c2 w2 ho hg hl; obtain ⟨hk2, hb2, hl2⟩ := BldAt.grow hBb (HK.out.below HA1.out) (by simp; omega) (HO.out.below HA1.out) HNE.out ho hg hl; have kc2 := hk2.cell; have kf2 := hk2.free; have HB2 := Lib.hid hb2; have HL2 := Lib.hid hl2; have KT2 := Lib.hid (KeptT.grow (b := b) (u := .slice A2 (l.length + 1) c2) (HO.out.below HA1.out) hg); clear ho hg hl hk2 hb2 hl2)
  go_wp2_with fail
  go_ret
  exact ⟨⟨rfl, HB2.out, HB1.out.trans ((HA1.out.mono hB1).trans HL2.out)⟩, KT1.out.trans ((KeptT.below HA1.out).trans KT2.out)⟩
theorem bldWriteByte_any (B b : Nat) (l : List UInt8) (x : UInt8) (z : Int) (hz : z = (x.toNat : Nat)) (w : World) (h : BldR w B b l) (hn : l.length + 1 ≤ 4000) (hB : B ≤ w.heap.size) :
    Calls Tryz.prog 109 #[.pointer (some ⟨b, 0, none⟩), .int .u8 z] w (RetW w B b (l ++ [x]) .nilIface) :=
  (bldWriteByteK_any B b l x z hz w h hn hB).mono fun _ _ h => h.1
end Go.Proofs.YtljjbhihllnnaaaGreat

namespace Go.Proofs.YtljjbhihllnnaaaGreat
open Go.RowKit

set_option maxRecDepth 100000 in
set_option maxHeartbeats 1000000 in
theorem digit_any (n : Nat) (w : World) (hn : n ≤ 9) : Calls Tryz.prog 108 #[.int .i64 (n : Nat)] w (RetQ w (.int .u8 (48 + (n : Int)))) := by
  go_enter Tryz.func108, Tryz.ntmps108
  go_wp2_with fail
  go_ret
  exact ⟨rfl, rfl⟩
theorem SlR.three {w : World} {g : Nat} {t : TypeId} {S : Nat → Prop} {x y z : UInt8} {a b c : Int} (h : Blk w g t #[.int .u8 a, .int .u8 b, .int .u8 c]) (ha : a = (x.toNat : Nat)) (hb : b = (y.toNat : Nat)) (hc : c = (z.toNat : Nat)) (hS : S g) : SlR encB w S (.slice (some ⟨g, 0, none⟩) 3 3) [x, y, z] := by
  subst ha hb hc
  refine ⟨_, 3, rfl, Nat.le_refl _, by simp [maxLen], fun _ => ⟨g, 0, rfl, hS, h.lt, fun j hj i hi => ?_⟩⟩
  obtain rfl : i = 0 := by have : i < 1 := hi; omega
  rw [show (0 : Nat) + j * encB.k + 0 = j by simp [encB], h.cell]
  simp only [List.length_cons, List.length_nil] at hj
  match j, hj with
  | 0, _ => rfl
  | 1, _ => rfl
  | 2, _ => rfl
theorem dch_int {n : Nat} (h : n ≤ 9) : (48 + (n : Int)) = ((dch n).toNat : Nat) := by rw [dch_nat h]; omega
end Go.Proofs.YtljjbhihllnnaaaGreat
