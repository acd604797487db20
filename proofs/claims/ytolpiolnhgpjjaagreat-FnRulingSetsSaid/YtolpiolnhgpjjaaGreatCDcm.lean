/- slices.Compact at numbers of one's own, over data -/
import Derived.Test.YtolpiolnhgpjjaaGreatCDso
import Derived.Test.YtolpiolnhgpjjaaGreatCCmp
set_option linter.unusedSimpArgs false
set_option linter.unusedVariables false
namespace Go.Proofs.YtolpiolnhgpjjaaGreat
open Go Go.RowKit Go.Sort
theorem W9 {w : World} {b o cap : Nat} {cur : Array Value} {xs : List Int} (hb : w.heap[b]? = some (.cells cur 3 (0, 0))) (h1 : xs.length ≤ cap) (h2 : cap ≤ maxLen) (h3 : o + cap ≤ cur.size) (h4 : ∀ j, j < xs.length → cur[o + j]? = some (.int .i64 (gi xs j))) {va : ai → Value} {p : ai} (h0 : va p = .slice (some ⟨b, o, none⟩) xs.length cap) (h5 : ∀ j, j < xs.length → va (p ++ [(j, 0)]) = .int .i64 (gi xs j)) : SlOk w va p 3 1 (xs.map iC) := by
 refine ⟨Nat.one_pos, fun r hr => by obtain ⟨x, -, rfl⟩ := List.mem_map.1 hr; rfl, .inr ⟨b, o, cap, cur, by rw [h0, List.length_map], hb, by rw [List.length_map]; exact h1, h2, by rw [Nat.mul_one]; exact h3, fun j q c hc => ?_⟩⟩;obtain ⟨rfl, hj, rfl⟩ := sh hc;rw [h5 j hj, Nat.mul_one, Nat.add_zero];exact h4 j hj
theorem Ox {w' : World} {b o cap : Nat} {cur : Array Value} {xs : List Int} (hb : w'.heap[b]? = some (.cells cur 3 (0, 0))) (h1 : xs.length ≤ cap) (h2 : cap ≤ maxLen) (h3 : o + cap ≤ cur.size) (h4 : ∀ j, j < xs.length → cur[o + j]? = some (.int .i64 (gi xs j))) {v : Value} (hv : v = .slice (some ⟨b, o, none⟩) xs.length cap) : ∃ val, MemOk w' (resCon [.own false [.sl true 3 1 (xs.map iC)]]) val (fun _ => False) ∧ (∀ b' key p, OwnB (resCon [.own false [.sl true 3 1 (xs.map iC)]]) val b' key p → b' = b) ∧ SV { fe with con := resCon [.own false [.sl true 3 1 (xs.map iC)]] } w' val (fun _ => False) 0 (resAV [.own false [.sl true 3 1 (xs.map iC)]]) v := by
 have hcon : ∀ key cn, resCon [.own false [.sl true 3 1 (xs.map iC)]] key = some cn → key = (0, 0) ∧ cn = ⟨none, [.sl true 3 1 (xs.map iC)]⟩ := fun key cn hk => by
  obtain ⟨k1, k2⟩ := key;unfold resCon at hk;dsimp only at hk;split at hk
  ·rename_i h3
   split at hk
   ·rename_i h4; subst h3 h4; cases hk; exact ⟨rfl, rfl⟩
   ·cases hk
  ·cases hk
 have hsl : SlOk w' (fun p => match p with | [(0, 0)] => v | [(0, 0), (j, 0)] => .int .i64 (gi xs j) | _ => undef) [(0, 0)] 3 1 (xs.map iC) := W9 hb h1 h2 h3 h4 hv fun j _ => rfl
 have hlk : ∀ p c, look [C.sl true 3 1 (xs.map iC)] p = some c → (p = [(0, 0)] ∧ c = .sl true 3 1 (xs.map iC)) ∨ ∃ j, p = [(0, 0), (j, 0)] ∧ c = .p (.int .i64 (gi xs j)) := fun p c hp => by
  match p with
  | [] => cases hp
  | (0, 0) :: z =>
   unfold look at hp;simp only [List.getElem?_cons_zero, Option.bind_some] at hp
   match z with
   | [] => rw [ck] at hp; cases hp; exact .inl ⟨rfl, rfl⟩
   | (j, q) :: z =>
    rw [dn] at hp
    cases hr : cd (xs.map iC) j q with
    | none => rw [hr] at hp; cases hp
    | some c0 =>
     rw [hr] at hp;obtain ⟨rfl, hj, rfl⟩ := sh hr;obtain ⟨rfl, rfl⟩ := C.flat_at rfl hp;exact .inr ⟨j, rfl, rfl⟩
  | (0, q + 1) :: z => unfold look at hp; simp at hp
  | (j + 1, q) :: z => unfold look at hp; simp at hp
 have hown : ∀ b key p, OwnB (resCon [.own false [.sl true 3 1 (xs.map iC)]]) (fun _ p => match p with | [(0, 0)] => v | [(0, 0), (j, 0)] => .int .i64 (gi xs j) | _ => undef) b key p → key = (0, 0) ∧ p = [(0, 0)] ∧ v.ownBlock = some b := fun b key p ho => by
  rcases ho with ⟨-, ⟨t', xs', h1⟩, -⟩ | ⟨cn, t', k', rows', n', cap', h1, h2, h3⟩
  ·obtain ⟨-, h2⟩ := hcon _ _ h1; cases h2
  ·obtain ⟨rfl, rfl⟩ := hcon _ _ h1
   rcases hlk p _ h2 with ⟨rfl, -⟩ | ⟨j, rfl, h4⟩
   ·obtain ⟨o, h3⟩ := h3;exact ⟨rfl, rfl, by rw [show v = _ from h3]; rfl⟩
   ·cases h4
 refine ⟨fun _ p => match p with | [(0, 0)] => v | [(0, 0), (j, 0)] => .int .i64 (gi xs j) | _ => undef, ⟨fun key cn p c hc hl => ?_, fun key t xs' hc => ?_, fun b key p key' p' k1 k2 => ?_, fun b hb => hb.elim⟩, fun b key p k1 => ?_, ⟨⟨_, rfl⟩, rfl, rfl⟩⟩
 ·obtain ⟨rfl, rfl⟩ := hcon _ _ hc
  rcases hlk p c hl with ⟨rfl, rfl⟩ | ⟨j, rfl, rfl⟩
  ·exact hsl
  ·exact rfl
 ·obtain ⟨-, h2⟩ := hcon _ _ hc; cases h2
 ·obtain ⟨rfl, rfl, -⟩ := hown _ _ _ k1;obtain ⟨rfl, rfl, -⟩ := hown _ _ _ k2;exact ⟨rfl, rfl⟩
 ·obtain ⟨-, -, k2⟩ := hown _ _ _ k1;rw [hv] at k2;cases k2; rfl
theorem M9 (xs : List Int) (hp : 0 < xs.length) (hl : xs.length ≤ 2097152) : r3 Tryz.prog 111 false [.sl true 3 1 (xs.map iC)] [] (fun r => r = [.own false [.sl true 3 1 ((Lib.compact xs).map iC)]]) := by
 intro w vs val0 S0 T hsz hm htv hT ha;obtain ⟨u, hu, -, -, hu2⟩ := htv;have hnode := hm.node (2, 0) ⟨none, [.sl true 3 1 (xs.map iC)]⟩ [(0, 0)] _ rfl (cf _ 0);obtain ⟨-, -, ⟨hnil, -⟩ | ⟨b, o, cap, cur, q1, q2, q3, q4, q5, q6⟩⟩ := hnode
 ·have := congrArg List.length hnil;simp at this;rw [this] at hp; simp at hp
 rw [List.length_map] at q1 q3;have hown : OwnB (mf none [.sl true 3 1 (xs.map iC)]) val0 b (2, 0) [(0, 0)] := .inr ⟨_, _, _, _, _, _, rfl, cf _ 0, o, q1⟩;have hG : Ax none [.sl true 3 1 (xs.map iC)] val0 b := ⟨_, _, hown⟩
 have hcells : ∀ j, j < xs.length → cur[o + j]? = some (.int .i64 (gi xs j)) := fun j hj => by
  have h3 := q6 j 0 _ (b6 hj);rw [show o + (j * 1 + 0) = o + j by omega] at h3;rw [h3];have h4 := hm.node (2, 0) ⟨none, [.sl true 3 1 (xs.map iC)]⟩ ([(0, 0)] ++ [(j, 0)]) (.p (.int .i64 (gi xs j))) rfl ((et (by simp)).2 ⟨_, 1, _, cf _ 0, b6 hj⟩);exact congrArg some h4
 have hblk : b < w.heap.size := (Array.getElem?_eq_some_iff.1 q2).1
 have hH : Holds (Value.int .i64) w b o xs.toArray := fun j hj => by
  have hj' : j < xs.length := by simpa using hj
  refine ⟨?_, by simp [World.frozen?, q2]⟩;simp only [World.cell?, q2];simp only [Option.isSome_none, Bool.false_eq_true, if_false];rw [hcells j hj', bm hj'];simp [hj']
 have hvs : vs = #[.slice (some ⟨b, o, none⟩) xs.length cap] := by
  have h1 : vs.size = 1 := hsz;apply Array.ext
  ·rw [h1]; rfl
  ·intro i hi1 hi2;have hi0 : i = 0 := by omega
   subst hi0;have h2 := (Array.getElem?_eq_some_iff.1 hu).2;rw [h2, hu2, q1]; rfl
 rw [hvs];refine (Tryz.slices_Compact_int b o cap xs w hH (by omega) q3).mono ?_;rintro e w' ⟨rfl, q, rfl⟩;have hcl := I1 xs;obtain ⟨ys, hys⟩ : ∃ ys, ys = Lib.compact xs := ⟨_, rfl⟩;obtain ⟨zs, hzs⟩ : ∃ zs, zs = ys ++ List.replicate (xs.length - ys.length) (0 : Int) := ⟨_, rfl⟩;rw [← hys] at hcl ⊢;rw [← hzs];have hzl : zs.length = xs.length := by rw [hzs]; simp; omega
 have hheap : (putRow (Value.int .i64) (Sort.ahead w q) b o zs.toArray).heap[b]? = some (.cells (putCells (Value.int .i64) o zs.toArray cur) 3 (0, 0)) := by
  simp [putRow, mapBlock, Sort.ahead, Array.getElem?_modify, q2, onCells]
 have hcz : ∀ j, j < ys.length → (putCells (Value.int .i64) o zs.toArray cur)[o + j]? = some (.int .i64 (gi ys j)) := fun j hj => by
  have h1 : o + j < (putCells (Value.int .i64) o zs.toArray cur).size := by simp [putCells]; omega
  rw [Array.getElem?_eq_getElem h1];simp only [putCells, Array.getElem_mapIdx, List.size_toArray];rw [if_pos (by omega), show o + j - o = j by omega];have h2 : j < zs.toArray.size := by simp; omega
  rw [getElem!_pos zs.toArray j h2, bm hj];simp [hzs, List.getElem_append_left hj]
 obtain ⟨val, g1, g2, g3⟩ := Ox (xs := ys) hheap (by omega) q4 (by simpa [putCells] using q5) hcz rfl;refine ⟨_, _, val, fun _ => False, rfl, rfl, ⟨?_, g1, fun b' key p h => .inr ?_, fun b' h => h.elim, g3⟩⟩
 ·refine ⟨rfl, rfl, rfl, ?_, fun k hk hkG => ?_⟩
  ·simp [putRow, mapBlock, Sort.ahead]
  ·have hkb : k ≠ b := fun h => hkG (h ▸ hG);simp [putRow, mapBlock, Sort.ahead, Array.getElem?_modify, Ne.symm hkb]
 ·rw [g2 b' key p h]; exact hG
end Go.Proofs.YtolpiolnhgpjjaaGreat
