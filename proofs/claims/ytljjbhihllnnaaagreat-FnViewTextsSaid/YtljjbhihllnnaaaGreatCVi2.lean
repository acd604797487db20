/- The program's reader of views. -/
import Derived.Test.YtljjbhihllnnaaaGreatCJn9
import Derived.Test.YtljjbhihllnnaaaGreatCJn2
import Derived.Test.YtljjbhihllnnaaaGreatCJn4
import Derived.Deep.DeepCutAuto
import Derived.Deep.RegionLaw
namespace Go.Proofs.YtljjbhihllnnaaaGreat
open Go.RowKit

/-- a view was read, or none -/
def RetView (T : TypeId) (w : World) (gr : Nat) (s : ByteArray) (x : Option (VT × List UInt8)) (e : Ending) (w' : World) : Prop :=
  ∃ a, a ≤ s.size ∧ Moved T w w' gr s a ∧ (match x with
    | none => e = .returned (.pointer none)
    | some (t, r) => r = from_ s a ∧ ∃ p, e = .returned (.pointer (some ⟨p, 0, none⟩)) ∧ TreeR w' (fun b => w.heap.size ≤ b) t p)
theorem RetView.nil {T : TypeId} {w w' : World} {gr a : Nat} {s : ByteArray} {x : Option (VT × List UInt8)} (h : x = none) (ha : a ≤ s.size) (hm : Moved T w w' gr s a) : RetView T w gr s x (.returned (.pointer none)) w' := by
  subst h; exact ⟨a, ha, hm, rfl⟩
theorem RetView.ptr {T : TypeId} {w w' : World} {gr a p : Nat} {s : ByteArray} {x : Option (VT × List UInt8)} {t : VT} (h : x = some (t, from_ s a)) (ha : a ≤ s.size) (hm : Moved T w w' gr s a) (ht : TreeR w' (fun b => w.heap.size ≤ b) t p) : RetView T w gr s x (.returned (.pointer (some ⟨p, 0, none⟩))) w' := by
  subst h; exact ⟨a, ha, hm, rfl, p, rfl, ht⟩

theorem sgn_lt {b : UInt8} {s : ByteArray} {a : Nat} {r : List UInt8} (h : sgn b (from_ s a) = some r) : a < s.size ∧ r = from_ s (a + 1) := by
  obtain ⟨h1, _, h2⟩ := sgn_from h; exact ⟨h1, h2⟩
theorem dgt_lt {m : Nat} {s : ByteArray} {a d : Nat} {r : List UInt8} (h : dgt m (from_ s a) = some (d, r)) : a < s.size ∧ d ≤ m ∧ r = from_ s (a + 1) := by
  obtain ⟨h1, _, h2, h3⟩ := dgt_from h; exact ⟨h1, h2, h3⟩

/-- the program's node -/
abbrev ViSt (w : World) (gr p : Nat) (s : ByteArray) (a d i dp : Int) (vp0 vt0 vp vt : Value) (ps qs rs : List Nat) (ts : List VT) (wr : World) : Prop := NodeSt 157 101 95 w gr p #[.string s, .int .i64 a] d i dp vp0 vt0 vp vt ps qs rs ts wr
theorem NodeSt.mv {TR TN TP : TypeId} {w wr : World} {gr p : Nat} {s : ByteArray} {a : Nat} {d i dp : Int} {vp0 vt0 vp vt : Value} {ps qs rs : List Nat} {ts : List VT} (h : NodeSt TR TN TP w gr p #[.string s, .int .i64 (a : Nat)] d i dp vp0 vt0 vp vt ps qs rs ts wr) : Moved TR w wr gr s a := ⟨h.rdr, h.grw⟩

/-- the loop over the parts: k parts have been read -/
def ViRel (f : Nat) (w : World) (gr p : Nat) (s : ByteArray) (a3 d i : Nat) (c : Value) (wr : World) : Prop :=
  ∃ (k b0 a1 : Nat) (vp vt : Value) (ps qs : List Nat) (ts : List VT) (sep : UInt8), k ≤ d ∧ c = .int .i64 k ∧ a1 ≤ s.size ∧ a3 < a1 ∧ ps.length = k ∧ qs.length = k ∧ ts.length = k ∧
    ViSt w gr p s (a1 : Nat) d i 0 vp vt vp vt ps qs qs ts wr ∧ pks (pv f) d 40 (from_ s a3) = pre ps ts (pks (pv f) (d - k) sep (from_ s b0)) ∧
    (k = 0 → sep = 40 ∧ sgn 40 (from_ s b0) = some (from_ s a1)) ∧ (0 < k → sep = 44 ∧ b0 = a1) ∧ (∀ t ∈ ts, t.good = true) ∧ (∀ t ∈ ts, ∀ u ∈ ts, t.dep = u.dep)

theorem ptrT : Nonempty (ElemT Tryz.prog encP 99 95) := ElemT.of (z := .pointer none) (n := 1) (bytes := 8) Tryz.underlying99 (by kernel_rfl) rfl rfl (by omega)
theorem Blk.newAt {w : World} {g : Nat} {t : TypeId} {cs : Array Value} (h : g = w.heap.size) : Blk (w.alloc (.cells cs t)) g t cs := h ▸ Blk.new w t cs
theorem Blk.drew_ {w : World} {g : Nat} {t : TypeId} {cs : Array Value} (h : Blk w g t cs) : Blk w.drew g t cs := h
theorem IntsR.oneAt {w : World} {g : Nat} {t : TypeId} {x : Int} (h : Blk w g t #[.int .i64 x]) : IntsR w (fun _ => True) (.slice (some ⟨g, 0, none⟩) 1 1) [x] :=
  ⟨_, 1, rfl, Nat.le_refl _, by simp [maxLen], fun _ => ⟨g, 0, rfl, trivial, fun j hj => by
    obtain rfl : j = 0 := by simpa using hj
    rw [h.cell]; rfl⟩⟩
theorem SlR.oneP {w : World} {g : Nat} {t : TypeId} {q : Nat} (h : Blk w g t #[.pointer (some ⟨q, 0, none⟩)]) : SlR encP w (fun _ => True) (.slice (some ⟨g, 0, none⟩) 1 1) [q] := SlR.one (E := encP) (x := q) h
end Go.Proofs.YtljjbhihllnnaaaGreat
