/- Parts of the proof, joined: Vi3, Vi4, Vi5, Vs2, Vs3. -/
import Derived.Test.YtljjbhihllnnaaaGreatCVi2
import Derived.Test.YtljjbhihllnnaaaGreatCReg
import Derived.Test.YtljjbhihllnnaaaGreatCJn7
import Derived.Deep.RegionHeld3
import Derived.Test.YtljjbhihllnnaaaGreatCJn9
import Derived.Test.YtljjbhihllnnaaaGreatCJn3
import Derived.Deep.DeepCutAuto
namespace Go.Proofs.YtljjbhihllnnaaaGreat
open Go.RowKit

def HoldsAt (p : Nat) (vp vt : Value) (W : World) : Prop := W.cell? ⟨p, 2, none⟩ = some vp ∧ W.cell? ⟨p, 3, none⟩ = some vt
theorem HoldsAt.of {TR TN TP : TypeId} {w wr : World} {gr p : Nat} {rd : Array Value} {d i dp : Int} {vp0 vt0 vp vt : Value} {ps qs rs : List Nat} {ts : List VT} (h : NodeSt TR TN TP w gr p rd d i dp vp0 vt0 vp vt ps qs rs ts wr) : HoldsAt p vp0 vt0 wr :=
  ⟨by rw [h.node.cell]; rfl, by rw [h.node.cell]; rfl⟩

theorem Blk.kept {W w1 : World} {g : Nat} {t : TypeId} {cs : Array Value} {row : Option Nat} (h : Blk W g t cs) (hg : W.grownBy w1 row) (hne : some g ≠ row) : Blk w1 g t cs := (hg.block g h.lt hne).trans h

noncomputable def viR20 : Code := (Tryz.f114.body.bind (regOf 20)).getD .skip
set_option maxRecDepth 100000 in
set_option maxHeartbeats 4000000 in
theorem viReg20 {w : World} {gr p : Nat} {s : ByteArray} {a d i : Nat} {vp vt : Value} {ps qs : List Nat} {ts : List VT} {t : VT} {j q : Nat} {w9 : World} (hs : ViSt w gr p s (a : Nat) d i 0 vp vt vp vt ps qs (qs ++ [q]) (ts ++ [t]) w9) (hpl : ps.length ≤ 100) (hql : qs.length ≤ 100) (Q : Exit → Act → World → Prop)
    (u0 u1 u2 u4 u7 u8 u9 u10 u11 u12 u13 u14 u15 u16 u17 u18 u19 u20 u21 u22 u23 u24 u25 u26 u27 u28 u29 u30 u31 u32 u33 u34 u35 u36 u37 u38 u39 u40 u41 u42 u43 u44 u45 u46 u47 u48 u49 u50 u51 u52 u53 u54 u55 u56 u57 u58 u59 u60 u61 u62 u63 u64 u65 u66 u67 u68 u69 u70 u71 u72 u73 u74 u75 u76 u77 u78 u79 u80 u81 u82 u83 u84 u85 u86 u87 u88 u89 u90 u91 u92 u93 u94 u95 u96 u97 u98 u99 u100 u101 u102 u103 u104 u105 u106 u107 u108 u109 u110 u111 u112 u113 u114 u115 u116 u117 u118 u119 u120 u121 u122 u123 u124 u125 u126 u127 u128 u129 u130 u131 u132 u133 u134 u135 u136 u137 u138 u139 u140 u141 : Value)
    (h : ∀ vp' vt' W, ViSt w gr p s (a : Nat) d i 0 vp' vt' vp' vt' (ps ++ [j]) (qs ++ [q]) (qs ++ [q]) (ts ++ [t]) W → ∀ v97 v98 v99 v100 v101 v102 v103 v104 v105 v106 v107 v108 v109 v110 v111 v112 v113 v114 v115 v116, Q .normal ⟨#[u0, u1, u2, .pointer (some ⟨p, 0, none⟩), u4, .int .i64 (j : Nat), .pointer (some ⟨q, 0, none⟩), u7, u8, u9, u10, u11, u12, u13, u14, u15, u16, u17, u18, u19, u20, u21, u22, u23, u24, u25, u26, u27, u28, u29, u30, u31, u32, u33, u34, u35, u36, u37, u38, u39, u40, u41, u42, u43, u44, u45, u46, u47, u48, u49, u50, u51, u52, u53, u54, u55, u56, u57, u58, u59, u60, u61, u62, u63, u64, u65, u66, u67, u68, u69, u70, u71, u72, u73, u74, u75, u76, u77, u78, u79, u80, u81, u82, u83, u84, u85, u86, u87, u88, u89, u90, u91, u92, u93, u94, u95, u96, v97, v98, v99, v100, v101, v102, v103, v104, v105, v106, v107, v108, v109, v110, v111, v112, v113, v114, v115, v116, u117, u118, u119, u120, u121, u122, u123, u124, u125, u126, u127, u128, u129, u130, u131, u132, u133, u134, u135, u136, u137, u138, u139, u140, u141], []⟩ W) :
    Code.wp Tryz.prog viR20 Q ⟨#[u0, u1, u2, .pointer (some ⟨p, 0, none⟩), u4, .int .i64 (j : Nat), .pointer (some ⟨q, 0, none⟩), u7, u8, u9, u10, u11, u12, u13, u14, u15, u16, u17, u18, u19, u20, u21, u22, u23, u24, u25, u26, u27, u28, u29, u30, u31, u32, u33, u34, u35, u36, u37, u38, u39, u40, u41, u42, u43, u44, u45, u46, u47, u48, u49, u50, u51, u52, u53, u54, u55, u56, u57, u58, u59, u60, u61, u62, u63, u64, u65, u66, u67, u68, u69, u70, u71, u72, u73, u74, u75, u76, u77, u78, u79, u80, u81, u82, u83, u84, u85, u86, u87, u88, u89, u90, u91, u92, u93, u94, u95, u96, u97, u98, u99, u100, u101, u102, u103, u104, u105, u106, u107, u108, u109, u110, u111, u112, u113, u114, u115, u116, u117, u118, u119, u120, u121, u122, u123, u124, u125, u126, u127, u128, u129, u130, u131, u132, u133, u134, u135, u136, u137, u138, u139, u140, u141], []⟩ w9 := by
  have HS9 := Lib.hid hs
  have HH := Lib.hid h
  clear hs h
  conv => arg 2; whnf
  refine wp_region_noPanic ?_
  refine wp_region_any (by kernel_rfl) ?_
  simp only [List.size_toArray, List.length_cons, List.length_nil, Array.replicate, List.replicate]
  refine wpAny_take (i := 0) (oi := _) (v := ?_) rfl (by kernel_rfl) (by kernel_rfl) (by kernel_rfl) (fun _ _ _ h => h) (Or.inl ⟨by rfl, ?_⟩) ?_
  case refine_2 => intro w0; go_simp; with_reducible rfl
  try simp only [Act.put, List.setIfInBounds_toArray, List.set_cons_zero, List.set_cons_succ]
  refine wpAny_take (i := 1) (oi := _) (v := ?_) rfl (by kernel_rfl) (by kernel_rfl) (by kernel_rfl) (fun _ _ _ h => h) (Or.inl ⟨by rfl, ?_⟩) ?_
  case refine_2 => intro w0; go_simp; with_reducible rfl
  try simp only [Act.put, List.setIfInBounds_toArray, List.set_cons_zero, List.set_cons_succ]
  refine wpAny_take (i := 2) (oi := _) (v := ?_) rfl (by kernel_rfl) (by kernel_rfl) (by kernel_rfl) (fun _ _ _ h => h) (Or.inl ⟨by rfl, ?_⟩) ?_
  case refine_2 => intro w0; go_simp; with_reducible rfl
  try simp only [Act.put, List.setIfInBounds_toArray, List.set_cons_zero, List.set_cons_succ]
  refine wpAny_take (i := 3) (oi := _) (v := ?_) rfl (by kernel_rfl) (by kernel_rfl) (by kernel_rfl) (fun _ _ _ h => h) (Or.inl ⟨by rfl, ?_⟩) ?_
  case refine_2 => intro w0; go_simp; with_reducible rfl
  try simp only [Act.put, List.setIfInBounds_toArray, List.set_cons_zero, List.set_cons_succ]
  refine wpAny_take (i := 4) (oi := _) (v := ?_) rfl (by kernel_rfl) (by kernel_rfl) (by kernel_rfl) (fun _ _ _ h => h) (Or.inl ⟨by rfl, ?_⟩) ?_
  case refine_2 => intro w0; go_simp; with_reducible rfl
  try simp only [Act.put, List.setIfInBounds_toArray, List.set_cons_zero, List.set_cons_succ]
  refine wpAny_take (i := 6) (oi := _) (v := ?_) rfl (by kernel_rfl) (by kernel_rfl) (by kernel_rfl) (fun _ _ _ h => h) (Or.inl ⟨by rfl, ?_⟩) ?_
  case refine_2 => intro w0; go_simp; with_reducible rfl
  try simp only [Act.put, List.setIfInBounds_toArray, List.set_cons_zero, List.set_cons_succ]
  refine wpAny_take (i := 9) (oi := _) (v := ?_) rfl (by kernel_rfl) (by kernel_rfl) (by kernel_rfl) (fun _ _ _ h => h) (Or.inl ⟨by rfl, ?_⟩) ?_
  case refine_2 => intro w0; go_simp; with_reducible rfl
  try simp only [Act.put, List.setIfInBounds_toArray, List.set_cons_zero, List.set_cons_succ]
  refine wpAny_take (i := 10) (oi := _) (v := ?_) rfl (by kernel_rfl) (by kernel_rfl) (by kernel_rfl) (fun _ _ _ h => h) (Or.inl ⟨by rfl, ?_⟩) ?_
  case refine_2 => intro w0; go_simp; with_reducible rfl
  try simp only [Act.put, List.setIfInBounds_toArray, List.set_cons_zero, List.set_cons_succ]
  refine wpAny_take (i := 11) (oi := _) (v := ?_) rfl (by kernel_rfl) (by kernel_rfl) (by kernel_rfl) (fun _ _ _ h => h) (Or.inl ⟨by rfl, ?_⟩) ?_
  case refine_2 => intro w0; go_simp; with_reducible rfl
  try simp only [Act.put, List.setIfInBounds_toArray, List.set_cons_zero, List.set_cons_succ]
  refine wpAny_take (i := 13) (oi := _) (v := ?_) rfl (by kernel_rfl) (by kernel_rfl) (by kernel_rfl) (fun _ _ _ h => h) (Or.inl ⟨by rfl, ?_⟩) ?_
  case refine_2 => intro w0; go_simp; with_reducible rfl
  try simp only [Act.put, List.setIfInBounds_toArray, List.set_cons_zero, List.set_cons_succ]
  have hS9 : HoldsAt p vp vt w9.drew := HoldsAt.of (NodeSt.drew_ HS9.out)
  refine wpAny_of_P (S := fun W => W.cell? ⟨p, 2, none⟩ = some vp ∧ W.cell? ⟨p, 3, none⟩ = some vt) (n1 := 16) _ _ _ _ ?_
  refine wpAnyP_take (i := 5) (oi := _) (v := ?_) rfl (by kernel_rfl) (by kernel_rfl) (by kernel_rfl) (by omega) (by kernel_rfl) (fun _ _ _ h => h) (Or.inl ⟨by rfl, ?_⟩) hS9 ?_
  case refine_2 => intro w0 hS0; obtain ⟨h0, h1⟩ := hS0; go_simp; with_reducible rfl
  try simp only [Act.put, List.setIfInBounds_toArray, List.set_cons_zero, List.set_cons_succ]
  refine wpAnyP_take (i := 12) (oi := _) (v := ?_) rfl (by kernel_rfl) (by kernel_rfl) (by kernel_rfl) (by omega) (by kernel_rfl) (fun _ _ _ h => h) (Or.inl ⟨by rfl, ?_⟩) hS9 ?_
  case refine_2 => intro w0 hS0; obtain ⟨h0, h1⟩ := hS0; go_simp; with_reducible rfl
  try simp only [Act.put, List.setIfInBounds_toArray, List.set_cons_zero, List.set_cons_succ]
  refine wpAnyP_ready (rs := [7, 14]) (by kernel_rfl) (by simp) (by kernel_rfl) (AllReadyP.cons (o := _) rfl (fun K hK => ?_) (AllReadyP.cons (o := _) rfl (fun K hK => ?_) AllReadyP.nil))
  ·
    go_simp
    refine hK.out _ _ (HoldsAt.of (by repeat first | exact HS9.out | apply NodeSt.alloc_ | apply NodeSt.drew_)) (fun _ => ?_)
    clear hK K
    try simp only [Act.put, List.setIfInBounds_toArray, List.set_cons_zero, List.set_cons_succ]
    refine wpAnyP_ready (rs := [8, 14]) (by kernel_rfl) (by simp) (by kernel_rfl) (AllReadyP.cons (o := _) rfl (fun K hK => ?_) (AllReadyP.cons (o := _) rfl (fun K hK => ?_) AllReadyP.nil))
    ·
      refine step_append_intsL (S := fun _ => True) _ rfl (.tmp 102) (.tmp 104) rfl w.heap.size vp (zs ps) (by simp [go_sem]) (show ViSt w gr p s (a : Nat) d i 0 vp vt vp vt ps qs (qs ++ [q]) (ts ++ [t]) _ from by repeat first | exact HS9.out | apply NodeSt.alloc_ | apply NodeSt.drew_).own1 _ [(j : Int)] rfl (IntsR.oneAt (by repeat first | exact Blk.newAt (by simp) | apply Blk.drew_ | apply Blk.alloc)) (by simp [zs]; omega) (show ViSt w gr p s (a : Nat) d i 0 vp vt vp vt ps qs (qs ++ [q]) (ts ++ [t]) _ from by repeat first | exact HS9.out | apply NodeSt.alloc_ | apply NodeSt.drew_).grw.size ?_
      intro A1 c1 w1 ho hg hl
      have HSA := Lib.hid ((show ViSt w gr p s (a : Nat) d i 0 vp vt vp vt ps qs (qs ++ [q]) (ts ++ [t]) _ from by repeat first | exact HS9.out | apply NodeSt.alloc_ | apply NodeSt.drew_).app1 ho hg hl)
      refine hK.out _ _ (HoldsAt.of HSA.out) (fun _ => ?_)
      clear hK K ho hg hl
      try simp only [Act.put, List.setIfInBounds_toArray, List.set_cons_zero, List.set_cons_succ]
      refine wpAnyP_ready (rs := [14]) (by kernel_rfl) (by simp) (by kernel_rfl) (AllReadyP.cons (o := _) rfl (fun K hK => ?_) AllReadyP.nil)
      go_simp
      refine hK.out _ _ (HoldsAt.of (by repeat first | exact HSA.out | apply NodeSt.alloc_ | apply NodeSt.drew_)) (fun _ => ?_)
      clear hK K
      try simp only [Act.put, List.setIfInBounds_toArray, List.set_cons_zero, List.set_cons_succ]
      refine wpAnyP_ready (rs := [15]) (by kernel_rfl) (by simp) (by kernel_rfl) (AllReadyP.cons (o := _) rfl (fun K hK => ?_) AllReadyP.nil)
      refine step_append_G ptrT (S := fun _ => True) _ rfl (.tmp 109) (.tmp 111) rfl w.heap.size vt qs (by simp [go_sem]) (show ViSt w gr p s (a : Nat) d i 0 vp vt _ vt (ps ++ [j]) qs (qs ++ [q]) (ts ++ [t]) _ from by repeat first | exact HSA.out | apply NodeSt.alloc_ | apply NodeSt.drew_).own2 _ [q] rfl (SlR.oneP (by repeat first | exact Blk.newAt (by simp) | apply Blk.drew_ | apply Blk.alloc)) (by simp; omega) (show ViSt w gr p s (a : Nat) d i 0 vp vt _ vt (ps ++ [j]) qs (qs ++ [q]) (ts ++ [t]) _ from by repeat first | exact HSA.out | apply NodeSt.alloc_ | apply NodeSt.drew_).grw.size ?_
      intro A2 c2 w2 ho hg hl
      have HSB := Lib.hid ((show ViSt w gr p s (a : Nat) d i 0 vp vt _ vt (ps ++ [j]) qs (qs ++ [q]) (ts ++ [t]) _ from by repeat first | exact HSA.out | apply NodeSt.alloc_ | apply NodeSt.drew_).app2 ho hg hl)
      refine hK.out _ _ (HoldsAt.of HSB.out) (fun _ => ?_)
      clear hK K ho hg hl
      try simp only [Act.put, List.setIfInBounds_toArray, List.set_cons_zero, List.set_cons_succ]
      refine wpAnyP_go (by kernel_rfl) ?_
      refine wpAny_take (i := 16) (oi := _) (v := ?_) rfl (by kernel_rfl) (by kernel_rfl) (by kernel_rfl) (fun _ _ _ h => h) (Or.inl ⟨by rfl, ?_⟩) ?_
      case refine_2 => intro w0; go_simp; with_reducible rfl
      try simp only [Act.put, List.setIfInBounds_toArray, List.set_cons_zero, List.set_cons_succ]
      refine wpAny_take (i := 17) (oi := _) (v := ?_) rfl (by kernel_rfl) (by kernel_rfl) (by kernel_rfl) (fun _ _ _ h => h) (Or.inl ⟨by rfl, ?_⟩) ?_
      case refine_2 => intro w0; go_simp; with_reducible rfl
      try simp only [Act.put, List.setIfInBounds_toArray, List.set_cons_zero, List.set_cons_succ]
      have k2 := HSB.out.node.cell
      have f2 := HSB.out.node.free
      refine wpAny_of_P (S := fun _ => True) (n1 := 22) _ _ _ _ ?_
      refine wpAnyP_ready (rs := [18]) (by kernel_rfl) (by simp) (by kernel_rfl) (AllReadyP.cons (o := _) rfl (fun K hK => ?_) AllReadyP.nil)
      go_simp
      refine hK.out _ _ trivial (fun _ => ?_)
      clear hK K
      try simp only [Act.put, List.setIfInBounds_toArray, List.set_cons_zero, List.set_cons_succ]
      refine wpAnyP_take (i := 19) (oi := _) (v := ?_) rfl (by kernel_rfl) (by kernel_rfl) (by kernel_rfl) (by omega) (by kernel_rfl) (fun _ _ _ h => h) (Or.inl ⟨by rfl, ?_⟩) trivial ?_
      case refine_2 => intro w0 _; go_simp; with_reducible rfl
      try simp only [Act.put, List.setIfInBounds_toArray, List.set_cons_zero, List.set_cons_succ]
      refine wpAnyP_take (i := 20) (oi := _) (v := ?_) rfl (by kernel_rfl) (by kernel_rfl) (by kernel_rfl) (by omega) (by kernel_rfl) (fun _ _ _ h => h) (Or.inl ⟨by rfl, ?_⟩) trivial ?_
      case refine_2 => intro w0 _; go_simp; with_reducible rfl
      try simp only [Act.put, List.setIfInBounds_toArray, List.set_cons_zero, List.set_cons_succ]
      refine wpAnyP_ready (rs := [21]) (by kernel_rfl) (by simp) (by kernel_rfl) (AllReadyP.cons (o := _) rfl (fun K hK => ?_) AllReadyP.nil)
      go_simp
      refine hK.out _ _ trivial (fun _ => ?_)
      clear hK K
      try simp only [Act.put, List.setIfInBounds_toArray, List.set_cons_zero, List.set_cons_succ]
      refine wpAnyP_go (by kernel_rfl) (wpAny_done (by kernel_rfl) ?_ _)
      exact NoPanic.normal (HH.out _ _ _ HSB.out.put23 _ _ _ _ _ _ _ _ _ _ _ _ _ _ _ _ _ _ _ _)
    ·
      go_simp
      refine hK.out _ _ (HoldsAt.of (by repeat first | exact HS9.out | apply NodeSt.alloc_ | apply NodeSt.drew_)) (fun _ => ?_)
      clear hK K
      try simp only [Act.put, List.setIfInBounds_toArray, List.set_cons_zero, List.set_cons_succ]
      refine wpAnyP_ready (rs := [8]) (by kernel_rfl) (by simp) (by kernel_rfl) (AllReadyP.cons (o := _) rfl (fun K hK => ?_) AllReadyP.nil)
      refine step_append_intsL (S := fun _ => True) _ rfl (.tmp 102) (.tmp 104) rfl w.heap.size vp (zs ps) (by simp [go_sem]) (show ViSt w gr p s (a : Nat) d i 0 vp vt vp vt ps qs (qs ++ [q]) (ts ++ [t]) _ from by repeat first | exact HS9.out | apply NodeSt.alloc_ | apply NodeSt.drew_).own1 _ [(j : Int)] rfl (IntsR.oneAt (by repeat first | exact Blk.newAt (by simp) | apply Blk.drew_ | apply Blk.alloc)) (by simp [zs]; omega) (show ViSt w gr p s (a : Nat) d i 0 vp vt vp vt ps qs (qs ++ [q]) (ts ++ [t]) _ from by repeat first | exact HS9.out | apply NodeSt.alloc_ | apply NodeSt.drew_).grw.size ?_
      intro A1 c1 w1 ho hg hl
      have HSA := Lib.hid ((show ViSt w gr p s (a : Nat) d i 0 vp vt vp vt ps qs (qs ++ [q]) (ts ++ [t]) _ from by repeat first | exact HS9.out | apply NodeSt.alloc_ | apply NodeSt.drew_).app1 ho hg hl)
      have HK2 := Lib.hid (Blk.kept (W := ((w9.alloc (.cells #[.int .i64 (j : Nat)] 3)).alloc (.cells #[.pointer (some ⟨q, 0, none⟩)] 95)).drew) (g := w9.heap.size + 1) (t := 95) (cs := #[.pointer (some ⟨q, 0, none⟩)]) (by repeat first | exact Blk.newAt (by simp) | apply Blk.drew_ | apply Blk.alloc) hg (fun e => by have := (HS9.out.own1.blk _ e.symm).2; omega))
      refine hK.out _ _ (HoldsAt.of HSA.out) (fun _ => ?_)
      clear hK K ho hg hl
      try simp only [Act.put, List.setIfInBounds_toArray, List.set_cons_zero, List.set_cons_succ]
      refine wpAnyP_ready (rs := [15]) (by kernel_rfl) (by simp) (by kernel_rfl) (AllReadyP.cons (o := _) rfl (fun K hK => ?_) AllReadyP.nil)
      refine step_append_G ptrT (S := fun _ => True) _ rfl (.tmp 109) (.tmp 111) rfl w.heap.size vt qs (by simp [go_sem]) (show ViSt w gr p s (a : Nat) d i 0 vp vt _ vt (ps ++ [j]) qs (qs ++ [q]) (ts ++ [t]) _ from by repeat first | exact HSA.out | apply NodeSt.alloc_ | apply NodeSt.drew_).own2 _ [q] rfl (SlR.oneP HK2.out) (by simp; omega) (show ViSt w gr p s (a : Nat) d i 0 vp vt _ vt (ps ++ [j]) qs (qs ++ [q]) (ts ++ [t]) _ from by repeat first | exact HSA.out | apply NodeSt.alloc_ | apply NodeSt.drew_).grw.size ?_
      intro A2 c2 w2 ho hg hl
      have HSB := Lib.hid ((show ViSt w gr p s (a : Nat) d i 0 vp vt _ vt (ps ++ [j]) qs (qs ++ [q]) (ts ++ [t]) _ from by repeat first | exact HSA.out | apply NodeSt.alloc_ | apply NodeSt.drew_).app2 ho hg hl)
      refine hK.out _ _ (HoldsAt.of HSB.out) (fun _ => ?_)
      clear hK K ho hg hl
      try simp only [Act.put, List.setIfInBounds_toArray, List.set_cons_zero, List.set_cons_succ]
      refine wpAnyP_go (by kernel_rfl) ?_
      refine wpAny_take (i := 16) (oi := _) (v := ?_) rfl (by kernel_rfl) (by kernel_rfl) (by kernel_rfl) (fun _ _ _ h => h) (Or.inl ⟨by rfl, ?_⟩) ?_
      case refine_2 => intro w0; go_simp; with_reducible rfl
      try simp only [Act.put, List.setIfInBounds_toArray, List.set_cons_zero, List.set_cons_succ]
      refine wpAny_take (i := 17) (oi := _) (v := ?_) rfl (by kernel_rfl) (by kernel_rfl) (by kernel_rfl) (fun _ _ _ h => h) (Or.inl ⟨by rfl, ?_⟩) ?_
      case refine_2 => intro w0; go_simp; with_reducible rfl
      try simp only [Act.put, List.setIfInBounds_toArray, List.set_cons_zero, List.set_cons_succ]
      have k2 := HSB.out.node.cell
      have f2 := HSB.out.node.free
      refine wpAny_of_P (S := fun _ => True) (n1 := 22) _ _ _ _ ?_
      refine wpAnyP_ready (rs := [18]) (by kernel_rfl) (by simp) (by kernel_rfl) (AllReadyP.cons (o := _) rfl (fun K hK => ?_) AllReadyP.nil)
      go_simp
      refine hK.out _ _ trivial (fun _ => ?_)
      clear hK K
      try simp only [Act.put, List.setIfInBounds_toArray, List.set_cons_zero, List.set_cons_succ]
      refine wpAnyP_take (i := 19) (oi := _) (v := ?_) rfl (by kernel_rfl) (by kernel_rfl) (by kernel_rfl) (by omega) (by kernel_rfl) (fun _ _ _ h => h) (Or.inl ⟨by rfl, ?_⟩) trivial ?_
      case refine_2 => intro w0 _; go_simp; with_reducible rfl
      try simp only [Act.put, List.setIfInBounds_toArray, List.set_cons_zero, List.set_cons_succ]
      refine wpAnyP_take (i := 20) (oi := _) (v := ?_) rfl (by kernel_rfl) (by kernel_rfl) (by kernel_rfl) (by omega) (by kernel_rfl) (fun _ _ _ h => h) (Or.inl ⟨by rfl, ?_⟩) trivial ?_
      case refine_2 => intro w0 _; go_simp; with_reducible rfl
      try simp only [Act.put, List.setIfInBounds_toArray, List.set_cons_zero, List.set_cons_succ]
      refine wpAnyP_ready (rs := [21]) (by kernel_rfl) (by simp) (by kernel_rfl) (AllReadyP.cons (o := _) rfl (fun K hK => ?_) AllReadyP.nil)
      go_simp
      refine hK.out _ _ trivial (fun _ => ?_)
      clear hK K
      try simp only [Act.put, List.setIfInBounds_toArray, List.set_cons_zero, List.set_cons_succ]
      refine wpAnyP_go (by kernel_rfl) (wpAny_done (by kernel_rfl) ?_ _)
      exact NoPanic.normal (HH.out _ _ _ HSB.out.put23 _ _ _ _ _ _ _ _ _ _ _ _ _ _ _ _ _ _ _ _)
  ·
    go_simp
    refine hK.out _ _ (HoldsAt.of (by repeat first | exact HS9.out | apply NodeSt.alloc_ | apply NodeSt.drew_)) (fun _ => ?_)
    clear hK K
    try simp only [Act.put, List.setIfInBounds_toArray, List.set_cons_zero, List.set_cons_succ]
    refine wpAnyP_ready (rs := [7]) (by kernel_rfl) (by simp) (by kernel_rfl) (AllReadyP.cons (o := _) rfl (fun K hK => ?_) AllReadyP.nil)
    go_simp
    refine hK.out _ _ (HoldsAt.of (by repeat first | exact HS9.out | apply NodeSt.alloc_ | apply NodeSt.drew_)) (fun _ => ?_)
    clear hK K
    try simp only [Act.put, List.setIfInBounds_toArray, List.set_cons_zero, List.set_cons_succ]
    refine wpAnyP_ready (rs := [8]) (by kernel_rfl) (by simp) (by kernel_rfl) (AllReadyP.cons (o := _) rfl (fun K hK => ?_) AllReadyP.nil)
    refine step_append_intsL (S := fun _ => True) _ rfl (.tmp 102) (.tmp 104) rfl w.heap.size vp (zs ps) (by simp [go_sem]) (show ViSt w gr p s (a : Nat) d i 0 vp vt vp vt ps qs (qs ++ [q]) (ts ++ [t]) _ from by repeat first | exact HS9.out | apply NodeSt.alloc_ | apply NodeSt.drew_).own1 _ [(j : Int)] rfl (IntsR.oneAt (by repeat first | exact Blk.newAt (by simp) | apply Blk.drew_ | apply Blk.alloc)) (by simp [zs]; omega) (show ViSt w gr p s (a : Nat) d i 0 vp vt vp vt ps qs (qs ++ [q]) (ts ++ [t]) _ from by repeat first | exact HS9.out | apply NodeSt.alloc_ | apply NodeSt.drew_).grw.size ?_
    intro A1 c1 w1 ho hg hl
    have HSA := Lib.hid ((show ViSt w gr p s (a : Nat) d i 0 vp vt vp vt ps qs (qs ++ [q]) (ts ++ [t]) _ from by repeat first | exact HS9.out | apply NodeSt.alloc_ | apply NodeSt.drew_).app1 ho hg hl)
    have HK2 := Lib.hid (Blk.kept (W := ((w9.alloc (.cells #[.pointer (some ⟨q, 0, none⟩)] 95)).alloc (.cells #[.int .i64 (j : Nat)] 3)).drew) (g := w9.heap.size) (t := 95) (cs := #[.pointer (some ⟨q, 0, none⟩)]) (by repeat first | exact Blk.newAt (by simp) | apply Blk.drew_ | apply Blk.alloc) hg (fun e => by have := (HS9.out.own1.blk _ e.symm).2; omega))
    refine hK.out _ _ (HoldsAt.of HSA.out) (fun _ => ?_)
    clear hK K ho hg hl
    try simp only [Act.put, List.setIfInBounds_toArray, List.set_cons_zero, List.set_cons_succ]
    refine wpAnyP_ready (rs := [15]) (by kernel_rfl) (by simp) (by kernel_rfl) (AllReadyP.cons (o := _) rfl (fun K hK => ?_) AllReadyP.nil)
    refine step_append_G ptrT (S := fun _ => True) _ rfl (.tmp 109) (.tmp 111) rfl w.heap.size vt qs (by simp [go_sem]) (show ViSt w gr p s (a : Nat) d i 0 vp vt _ vt (ps ++ [j]) qs (qs ++ [q]) (ts ++ [t]) _ from by repeat first | exact HSA.out | apply NodeSt.alloc_ | apply NodeSt.drew_).own2 _ [q] rfl (SlR.oneP HK2.out) (by simp; omega) (show ViSt w gr p s (a : Nat) d i 0 vp vt _ vt (ps ++ [j]) qs (qs ++ [q]) (ts ++ [t]) _ from by repeat first | exact HSA.out | apply NodeSt.alloc_ | apply NodeSt.drew_).grw.size ?_
    intro A2 c2 w2 ho hg hl
    have HSB := Lib.hid ((show ViSt w gr p s (a : Nat) d i 0 vp vt _ vt (ps ++ [j]) qs (qs ++ [q]) (ts ++ [t]) _ from by repeat first | exact HSA.out | apply NodeSt.alloc_ | apply NodeSt.drew_).app2 ho hg hl)
    refine hK.out _ _ (HoldsAt.of HSB.out) (fun _ => ?_)
    clear hK K ho hg hl
    try simp only [Act.put, List.setIfInBounds_toArray, List.set_cons_zero, List.set_cons_succ]
    refine wpAnyP_go (by kernel_rfl) ?_
    refine wpAny_take (i := 16) (oi := _) (v := ?_) rfl (by kernel_rfl) (by kernel_rfl) (by kernel_rfl) (fun _ _ _ h => h) (Or.inl ⟨by rfl, ?_⟩) ?_
    case refine_2 => intro w0; go_simp; with_reducible rfl
    try simp only [Act.put, List.setIfInBounds_toArray, List.set_cons_zero, List.set_cons_succ]
    refine wpAny_take (i := 17) (oi := _) (v := ?_) rfl (by kernel_rfl) (by kernel_rfl) (by kernel_rfl) (fun _ _ _ h => h) (Or.inl ⟨by rfl, ?_⟩) ?_
    case refine_2 => intro w0; go_simp; with_reducible rfl
    try simp only [Act.put, List.setIfInBounds_toArray, List.set_cons_zero, List.set_cons_succ]
    have k2 := HSB.out.node.cell
    have f2 := HSB.out.node.free
    refine wpAny_of_P (S := fun _ => True) (n1 := 22) _ _ _ _ ?_
    refine wpAnyP_ready (rs := [18]) (by kernel_rfl) (by simp) (by kernel_rfl) (AllReadyP.cons (o := _) rfl (fun K hK => ?_) AllReadyP.nil)
    go_simp
    refine hK.out _ _ trivial (fun _ => ?_)
    clear hK K
    try simp only [Act.put, List.setIfInBounds_toArray, List.set_cons_zero, List.set_cons_succ]
    refine wpAnyP_take (i := 19) (oi := _) (v := ?_) rfl (by kernel_rfl) (by kernel_rfl) (by kernel_rfl) (by omega) (by kernel_rfl) (fun _ _ _ h => h) (Or.inl ⟨by rfl, ?_⟩) trivial ?_
    case refine_2 => intro w0 _; go_simp; with_reducible rfl
    try simp only [Act.put, List.setIfInBounds_toArray, List.set_cons_zero, List.set_cons_succ]
    refine wpAnyP_take (i := 20) (oi := _) (v := ?_) rfl (by kernel_rfl) (by kernel_rfl) (by kernel_rfl) (by omega) (by kernel_rfl) (fun _ _ _ h => h) (Or.inl ⟨by rfl, ?_⟩) trivial ?_
    case refine_2 => intro w0 _; go_simp; with_reducible rfl
    try simp only [Act.put, List.setIfInBounds_toArray, List.set_cons_zero, List.set_cons_succ]
    refine wpAnyP_ready (rs := [21]) (by kernel_rfl) (by simp) (by kernel_rfl) (AllReadyP.cons (o := _) rfl (fun K hK => ?_) AllReadyP.nil)
    go_simp
    refine hK.out _ _ trivial (fun _ => ?_)
    clear hK K
    try simp only [Act.put, List.setIfInBounds_toArray, List.set_cons_zero, List.set_cons_succ]
    refine wpAnyP_go (by kernel_rfl) (wpAny_done (by kernel_rfl) ?_ _)
    exact NoPanic.normal (HH.out _ _ _ HSB.out.put23 _ _ _ _ _ _ _ _ _ _ _ _ _ _ _ _ _ _ _ _)
end Go.Proofs.YtljjbhihllnnaaaGreat

namespace Go.Proofs.YtljjbhihllnnaaaGreat
open Go.RowKit

set_option maxRecDepth 100000 in
set_option maxHeartbeats 4000000 in
theorem rdView (f : Nat) : ∀ (w : World) (gr : Nat) (s : ByteArray) (a : Nat), Blk w gr 157 #[.string s, .int .i64 (a : Nat)] → a ≤ s.size → s.size ≤ 4000 → s.size - a < f →
    Calls Tryz.prog 114 #[.pointer (some ⟨gr, 0, none⟩)] w (RetView 157 w gr s (pg f (from_ s a))) := by
  induction f with
  | zero => intro w gr s a _ _ _ h; omega
  | succ f ih =>
    intro w gr s a hb ha hs hf
    have HB := Lib.hid hb
    have IH := Lib.hid ih
    have hgl : gr < w.heap.size := hb.lt
    clear hb ih
    cases h1 : dgt 6 (from_ s a) with
    | none =>
      have HN := Lib.hid (pg_none (pv_no1 (f := f) h1))
      have C1 := Lib.hid (rdDigit_no w gr s a 6 HB.out ha h1)
      clear h1
      go_enter Tryz.func114, Tryz.ntmps114
      go_wp2_with fail
      refine C1.out.mono ?_
      rintro e w1 ⟨rfl, hm1⟩
      have HM := Lib.hid hm1
      clear hm1
      go_wp2_with fail
      go_ret
      exact RetView.nil HN.out ha (HM.out.alloc _)
    | some x =>
      obtain ⟨d, l1⟩ := x
      obtain ⟨ha1, hd6, hl1⟩ := dgt_lt h1
      subst hl1
      have C1 := Lib.hid (rdDigit_yes w gr s a 6 d _ HB.out hs h1)
      have H1 := Lib.hid h1
      clear h1
      go_enter Tryz.func114, Tryz.ntmps114
      go_wp2_with fail
      refine C1.out.mono ?_
      rintro e w1 ⟨rfl, hm1⟩
      have hz1 : w.heap.size ≤ w1.heap.size := hm1.size
      have hst : ViSt w gr w1.heap.size s ((a + 1 : Nat) : Int) d 0 0 (.slice none 0 0) (.slice none 0 0) (.slice none 0 0) (.slice none 0 0) [] [] [] [] (w1.alloc (.cells #[.int .i64 d, .int .i64 0, .slice none 0 0, .slice none 0 0, .int .i64 0] 101)) := NodeSt.new hm1.1 hgl hm1.2 d
      have HS := Lib.hid hst
      have hd0 : ¬ (d : Int) < 0 := by omega
      clear hm1 hst C1
      obtain ⟨p, hp⟩ : ∃ p, p = w1.heap.size := ⟨_, rfl⟩
      have hpz : w.heap.size ≤ p := by omega
      cases h2 : sgn 46 (from_ s (a + 1)) with
      | none =>
        have HN := Lib.hid (pg_none (pv_no2 (f := f) H1.out h2))
        have C2 := Lib.hid (fun W hW => rdNext_n 46 46 rfl W gr s (a + 1) hW (by omega) h2)
        clear h2
        go_wp2_with fail
        rw [← hp] at HS ⊢
        clear hp
        generalize w1.alloc _ = wa at *
        refine (C2.out _ HS.out.rdr).mono ?_
        rintro e w2 ⟨rfl, hm2⟩
        have HM := Lib.hid (HS.out.mv.trans hm2)
        clear hm2
        go_wp2_with fail
        go_ret
        exact RetView.nil HN.out (by omega) HM.out
      | some l2 =>
        obtain ⟨ha2, hl2⟩ := sgn_lt h2
        subst hl2
        have C2 := Lib.hid (fun W hW => rdNext_y 46 46 rfl W gr s (a + 1) _ hW hs h2)
        have H2 := Lib.hid h2
        clear h2
        go_wp2_with fail
        rw [← hp] at HS ⊢
        clear hp
        generalize w1.alloc _ = wa at *
        refine (C2.out _ HS.out.rdr).mono ?_
        rintro e w2 ⟨rfl, hm2⟩
        have HS2 := Lib.hid (HS.out.moved hm2.1 hm2.2)
        clear hm2 HS C2
        cases h3 : dgt 9 (from_ s (a + 1 + 1)) with
        | none =>
          have HN := Lib.hid (pg_none (pv_no3 (f := f) H1.out H2.out h3))
          have C3 := Lib.hid (rdDigit_no w2 gr s (a + 1 + 1) 9 HS2.out.rdr (by omega) h3)
          clear h3
          go_wp2_with fail
          refine C3.out.mono ?_
          rintro e w3 ⟨rfl, hm3⟩
          have HS3 := Lib.hid (HS2.out.moved hm3.1 hm3.2)
          have HS4 := Lib.hid (HS3.out.put1 (-1))
          have hc3 := HS3.out.node.cell
          have hf3 := HS3.out.node.free
          clear hm3
          go_wp2_with fail
          go_ret
          exact RetView.nil HN.out (by omega) HS4.out.mv
        | some x =>
          obtain ⟨i, l3⟩ := x
          obtain ⟨ha3, hi9, hl3⟩ := dgt_lt h3
          subst hl3
          have C3 := Lib.hid (rdDigit_yes w2 gr s (a + 1 + 1) 9 i _ HS2.out.rdr hs h3)
          have H3 := Lib.hid h3
          clear h3
          go_wp2_with fail
          refine C3.out.mono ?_
          rintro e w3 ⟨rfl, hm3⟩
          have HS3 := Lib.hid (HS2.out.moved hm3.1 hm3.2)
          have HS4 := Lib.hid (HS3.out.put1 (i : Int))
          have hc3 := HS3.out.node.cell
          have hf3 := HS3.out.node.free
          have hi0 : ¬ (i : Int) < 0 := by omega
          clear hm3 C3 HS2
          by_cases hd : d = 0
          · subst hd
            have HN := Lib.hid (pg_some (pv_leaf (f := f) H1.out H2.out H3.out (.inl rfl)) (leaf_good 0 i))
            go_wp2_with fail
            go_ret
            exact RetView.ptr HN.out (by omega) HS4.out.mv (NodeSt.tree HS4.out)
          · have hde : ((d : Int) == 0) = false := by simp [hd]
            cases h4 : sgn 40 (from_ s (a + 1 + 1 + 1)) with
            | none =>
              have HN := Lib.hid (pg_some (pv_leaf (f := f) H1.out H2.out H3.out (.inr h4)) (leaf_good d i))
              have C4 := Lib.hid (fun W hW => rdNext_n 40 40 rfl W gr s (a + 1 + 1 + 1) hW (by omega) h4)
              clear h4
              go_wp2_with fail
              refine (C4.out _ HS4.out.rdr).mono ?_
              rintro e w4 ⟨rfl, hm4⟩
              have HS5 := Lib.hid (HS4.out.moved hm4.1 hm4.2)
              clear hm4
              go_wp2_with fail
              go_ret
              exact RetView.ptr HN.out (by omega) HS5.out.mv (NodeSt.tree HS5.out)
            | some l4 =>
              obtain ⟨ha4, hl4⟩ := sgn_lt h4
              subst hl4
              have HX := Lib.hid (pv_kids (f := f) H1.out H2.out H3.out hd h4)
              have C4 := Lib.hid (fun W hW => rdNext_y 40 40 rfl W gr s (a + 1 + 1 + 1) _ hW hs h4)
              have H4 := Lib.hid h4
              clear h4
              go_wp2_with fail
              refine (C4.out _ HS4.out.rdr).mono ?_
              rintro e w4 ⟨rfl, hm4⟩
              have HS5 := Lib.hid (HS4.out.moved hm4.1 hm4.2)
              have hc5 := HS5.out.node.cell
              have hf5 := HS5.out.node.free
              clear hm4 C4 HS4 HS3 hc3 hf3
              go_wp2_with fail
              clear hc5 hf5
              go_loopw [46] (fun c wr => ViRel f w gr p s (a + 1 + 1 + 1) d i c wr) (fun c _ => d - (intOf c).toNat)
              case atStart =>
                exact ⟨0, a + 1 + 1 + 1, a + 1 + 1 + 1 + 1, _, _, [], [], [], 40, Nat.zero_le _, rfl, by omega, by omega, rfl, rfl, rfl, HS5.out, (pre_nil _).symm, fun _ => ⟨rfl, H4.out⟩, fun h => absurd h (Nat.lt_irrefl _), (fun t h => absurd h List.not_mem_nil), (fun t h => absurd h List.not_mem_nil)⟩
              case round =>
                clear HS5
                obtain ⟨k, b0, a1, vp, vt, ps, qs, ts, sep, hk, rfl, hal, haf, hpl, hql, htl, hst, hx, hk0, hk1, hgd, hsm⟩ := hrel
                have HS := Lib.hid hst
                have HX1 := Lib.hid hx
                have HK0 := Lib.hid hk0
                have HK1 := Lib.hid hk1
                have HGD := Lib.hid hgd
                have HSM := Lib.hid hsm
                have hc := hst.node.cell
                clear hst hx hk0 hk1 hgd hsm
                by_cases hlt : k < d
                · obtain ⟨m, hm⟩ : ∃ m, d - k = m + 1 := ⟨d - k - 1, by omega⟩
                  have HXX : Hid (pv (f + 1) (from_ s a) = fin d i (pre ps ts (pks (pv f) (m + 1) sep (from_ s b0)))) := Lib.hid (by rw [HX.out, HX1.out, hm])
                  have HM := Lib.hid hm
                  clear hm
                  go_upto_region 12 with (fail)
                  go_cut [55] (fun c W => ∃ a2, a2 ≤ s.size ∧ a1 ≤ a2 ∧ ViSt w gr p s (a2 : Nat) d i 0 vp vt vp vt ps qs qs ts W ∧ ((c = .bool true ∧ pg (f + 1) (from_ s a) = none) ∨ (c = .bool false ∧ sgn sep (from_ s b0) = some (from_ s a2))))
                  case first =>
                    by_cases hk : k = 0
                    · have e1 : decide (0 < k) = false := by simp [hk]
                      have HE : Hid (sgn sep (from_ s b0) = some (from_ s a1)) := Lib.hid (by rw [(HK0.out hk).1]; exact (HK0.out hk).2)
                      clear hk
                      go_wp2_with fail
                      go_meet
                      exact ⟨a1, hal, Nat.le_refl _, HS.out, .inr ⟨rfl, HE.out⟩⟩
                    · have e1 : decide (0 < k) = true := by simp; omega
                      obtain ⟨rfl, rfl⟩ := HK1.out (by omega)
                      clear hk
                      cases h5 : sgn 44 (from_ s b0) with
                      | none =>
                        have C5 := Lib.hid (rdNext_n 44 44 rfl wr gr s b0 HS.out.rdr hal h5)
                        have HN : Hid (pg (f + 1) (from_ s a) = none) := Lib.hid (pg_none (by rw [HXX.out, pks_none1 _ h5]; rfl))
                        clear h5
                        go_wp2_with (go_at_call 163; refine C5.out.mono ?_; rintro e w5 ⟨rfl, hm5⟩; have HS5 := Lib.hid (HS.out.moved hm5.1 hm5.2); clear hm5)
                        go_meet
                        exact ⟨b0, hal, Nat.le_refl _, HS5.out, .inl ⟨rfl, HN.out⟩⟩
                      | some l5 =>
                        obtain ⟨ha5, hl5⟩ := sgn_lt h5
                        subst hl5
                        have C5 := Lib.hid (rdNext_y 44 44 rfl wr gr s b0 _ HS.out.rdr hs h5)
                        have HE := Lib.hid h5
                        clear h5
                        go_wp2_with (go_at_call 163; refine C5.out.mono ?_; rintro e w5 ⟨rfl, hm5⟩; have HS5 := Lib.hid (HS.out.moved hm5.1 hm5.2); clear hm5)
                        go_meet
                        exact ⟨b0 + 1, by omega, by omega, HS5.out, .inr ⟨rfl, HE.out⟩⟩
                  case rest =>
                  obtain ⟨a2, hal2, ha12, hst2, hor⟩ := hcut
                  have HS2 := Lib.hid hst2
                  clear hst2 HS HK0 HK1 hc
                  rcases hor with ⟨rfl, hn⟩ | ⟨rfl, hsg⟩
                  · have HN := Lib.hid hn
                    clear hn
                    go_wp2_with fail
                    go_ret
                    exact RetView.nil HN.out hal2 HS2.out.mv
                  have HSG := Lib.hid hsg
                  clear hsg
                  cases h6 : dgt 5 (from_ s a2) with
                  | none =>
                    have C6 := Lib.hid (rdDigit_no _ gr s a2 5 HS2.out.rdr hal2 h6)
                    have HN : Hid (pg (f + 1) (from_ s a) = none) := Lib.hid (pg_none (by rw [HXX.out, pks_none2 _ HSG.out h6]; rfl))
                    clear h6
                    go_wp2_with fail
                    refine C6.out.mono ?_
                    rintro e w6 ⟨rfl, hm6⟩
                    have HS6 := Lib.hid (HS2.out.moved hm6.1 hm6.2)
                    clear hm6
                    go_wp2_with fail
                    go_ret
                    exact RetView.nil HN.out hal2 HS6.out.mv
                  | some x6 =>
                  obtain ⟨j, l6⟩ := x6
                  obtain ⟨ha6, hj5, hl6⟩ := dgt_lt h6
                  subst hl6
                  have C6 := Lib.hid (rdDigit_yes _ gr s a2 5 j _ HS2.out.rdr hs h6)
                  have H6 := Lib.hid h6
                  have hj0 : ¬ (j : Int) < 0 := by omega
                  clear h6
                  go_wp2_with fail
                  refine C6.out.mono ?_
                  rintro e w6 ⟨rfl, hm6⟩
                  have HS6 := Lib.hid (HS2.out.moved hm6.1 hm6.2)
                  clear hm6 C6 HS2
                  cases h7 : sgn 58 (from_ s (a2 + 1)) with
                  | none =>
                    have C7 := Lib.hid (rdNext_n 58 58 rfl w6 gr s (a2 + 1) HS6.out.rdr (by omega) h7)
                    have HN : Hid (pg (f + 1) (from_ s a) = none) := Lib.hid (pg_none (by rw [HXX.out, pks_none3 _ HSG.out H6.out h7]; rfl))
                    clear h7
                    go_wp2_with fail
                    refine C7.out.mono ?_
                    rintro e w7 ⟨rfl, hm7⟩
                    have HS7 := Lib.hid (HS6.out.moved hm7.1 hm7.2)
                    clear hm7
                    go_wp2_with fail
                    go_ret
                    exact RetView.nil HN.out (by omega) HS7.out.mv
                  | some l7 =>
                  obtain ⟨ha7, hl7⟩ := sgn_lt h7
                  subst hl7
                  have C7 := Lib.hid (rdNext_y 58 58 rfl w6 gr s (a2 + 1) _ HS6.out.rdr hs h7)
                  have H7 := Lib.hid h7
                  clear h7
                  go_wp2_with fail
                  refine C7.out.mono ?_
                  rintro e w7 ⟨rfl, hm7⟩
                  have HS7 := Lib.hid (HS6.out.moved hm7.1 hm7.2)
                  clear hm7 C7 HS6
                  go_wp2_with fail
                  refine (IH.out w7 gr s (a2 + 1 + 1) HS7.out.rdr (by omega) hs (by omega)).mono ?_
                  rintro e w8 ⟨a5, ha5, hm8, hres⟩
                  cases h8 : pg f (from_ s (a2 + 1 + 1)) with
                  | none =>
                    rw [h8] at hres
                    have hres : e = .returned (.pointer none) := hres
                    subst hres
                    have HN : Hid (pg (f + 1) (from_ s a) = none) := Lib.hid (by
                      rcases pg_no h8 with h9 | ⟨t, r, h9, hb⟩
                      · exact pg_none (by rw [HXX.out, pks_none4 _ HSG.out H6.out H7.out h9]; rfl)
                      · by_cases hj : j < t.deg
                        · exact pg_part (ps := ps ++ [j]) (ts := ts ++ [t]) (by rw [HXX.out, pre_step (pv f) ps ts HSG.out H6.out H7.out h9 hj]) (u := t) (by simp) hb
                        · exact pg_none (by rw [HXX.out, pks_none5 _ HSG.out H6.out H7.out h9 hj]; rfl))
                    have HS8 := Lib.hid (HS7.out.moved hm8.1 hm8.2)
                    clear hm8 h8
                    go_wp2_with fail
                    go_quiet (fail)
                    go_wp2_with fail
                    go_ret
                    exact RetView.nil HN.out ha5 (HS8.out.mv.trans (Moved.same HS8.out.rdr _))
                  | some x8 =>
                  obtain ⟨t, r8⟩ := x8
                  rw [h8] at hres
                  obtain ⟨hr8, q, he8, ht8⟩ := hres
                  have ha5l : a + 1 + 1 + 1 < a5 := by
                    have h10 := pv_len (pg_inv h8).1
                    rw [hr8, from_len, from_len] at h10
                    omega
                  subst hr8 he8
                  obtain ⟨h9, hg9⟩ := pg_inv h8
                  have hs8 := HS7.out.part hm8.1 hm8.2 ht8
                  have HS8 := Lib.hid hs8
                  have H9 := Lib.hid h9
                  have HG9 := Lib.hid hg9
                  obtain ⟨kq0, kq4, -, -⟩ := ht8.deg
                  have kp := hs8.node.cell
                  clear hm8 h8 h9 hg9 hs8 ht8
                  by_cases hj : j < t.deg
                  case neg =>
                    have HN : Hid (pg (f + 1) (from_ s a) = none) := Lib.hid (pg_none (by rw [HXX.out, pks_none5 _ HSG.out H6.out H7.out H9.out hj]; rfl))
                    have e8 : decide (t.deg ≤ j) = true := by simp; omega
                    clear hj
                    go_wp2_with fail
                    go_quiet (fail)
                    go_wp2_with fail
                    go_ret
                    exact RetView.nil HN.out ha5 (HS8.out.mv.trans (Moved.same HS8.out.rdr _))
                  have e8 : decide (t.deg ≤ j) = false := by simp; omega
                  have HXS : Hid (pv (f + 1) (from_ s a) = fin d i (pre (ps ++ [j]) (ts ++ [t]) (pks (pv f) m 44 (from_ s a5)))) := Lib.hid (by rw [HXX.out, pre_step (pv f) ps ts HSG.out H6.out H7.out H9.out hj])
                  have HJ := Lib.hid hj
                  clear hj kp kq0 kq4
                  go_upto_region 18 with (fail)
                  go_cut [96] (fun c W => (∃ n, W = w8.drewN n) ∧ ((c = .bool true ∧ pg (f + 1) (from_ s a) = none) ∨ (c = .bool false ∧ ∀ u ∈ ts, t.dep = u.dep)))
                  case first =>
                    have ht8 := HS8.out.trees.at_ (j := ts.length) (by simp)
                    have hga : ga (ts ++ [t]) ts.length = t := by simp [ga]
                    have hgq : ga (qs ++ [q]) ts.length = q := by rw [htl, ← hql]; simp [ga]
                    rw [hga, hgq] at ht8
                    obtain ⟨kq0, kq4, -, -⟩ := ht8.deg
                    have kp := HS8.out.node.cell
                    clear ht8 hga hgq
                    by_cases hk : k = 0
                    · have e9 : decide (0 < k) = false := by simp [hk]
                      have HE : Hid (∀ u ∈ ts, t.dep = u.dep) := Lib.hid (by
                        have : ts = [] := List.eq_nil_of_length_eq_zero (by omega)
                        rw [this]; exact fun u h => absurd h List.not_mem_nil)
                      clear hk
                      go_quiet (fail)
                      go_wp2_with fail
                      go_meet
                      exact ⟨⟨_, rfl⟩, .inr ⟨rfl, HE.out⟩⟩
                    · have e9 : decide (0 < k) = true := by simp; omega
                      obtain ⟨g, cap, hvt, -, -, -, -⟩ := HS8.out.own2.addr (by omega)
                      have hown := HS8.out.own2
                      subst hvt
                      have kg := (hown.at_ (j := 0) (by omega)).1 0 (by decide)
                      have ht0 := HS8.out.trees.at_ (j := 0) (by simp)
                      have hga : ga (ts ++ [t]) 0 = ga ts 0 := ga_left (by omega)
                      have hgq : ga (qs ++ [q]) 0 = ga qs 0 := ga_left (by omega)
                      rw [hga, hgq] at ht0
                      obtain ⟨-, k04, -, -⟩ := ht0.deg
                      simp only [encP, Nat.zero_mul, Nat.add_zero, List.getElem?_cons_zero] at kg
                      have hql0 : (0 : Int) < (qs.length : Int) := by omega
                      have hql1 : 0 < qs.length := by omega
                      clear hown ht0 hga hgq
                      by_cases hdd : t.dep = (ga ts 0).dep
                      · have e10 : ((t.dep : Int) != ((ga ts 0).dep : Int)) = false := by simp [hdd]
                        have HE : Hid (∀ u ∈ ts, t.dep = u.dep) := Lib.hid fun u hu => hdd.trans (HSM.out _ (ga_mem (by omega)) u hu)
                        clear hdd hk
                        go_quiet (fail)
                        go_wp2_with fail
                        go_meet
                        exact ⟨⟨_, rfl⟩, .inr ⟨rfl, HE.out⟩⟩
                      · have e10 : ((t.dep : Int) != ((ga ts 0).dep : Int)) = true := by simp; omega
                        have HE : Hid (pg (f + 1) (from_ s a) = none) := Lib.hid (pg_differ HXS.out (u := t) (v := ga ts 0) (by simp) (List.mem_append_left _ (ga_mem (by omega))) hdd)
                        clear hdd hk
                        go_quiet (fail)
                        go_wp2_with fail
                        go_meet
                        exact ⟨⟨_, rfl⟩, .inl ⟨rfl, HE.out⟩⟩
                  case rest =>
                  obtain ⟨⟨n9, rfl⟩, hor⟩ := hcut
                  have HS9 := Lib.hid (HS8.out.below (below_drewN (Below.refl _ _) n9))
                  clear HS8
                  rcases hor with ⟨rfl, hn⟩ | ⟨rfl, hse⟩
                  · have HN := Lib.hid hn
                    clear hn
                    go_wp2_with fail
                    go_ret
                    exact RetView.nil HN.out ha5 HS9.out.mv
                  have HSE := Lib.hid hse
                  clear hse
                  generalize w8.drewN n9 = w9 at *
                  go_upto_region 20 with (fail)
                  have HXT : Hid (pks (pv f) d 40 (from_ s (a + 1 + 1 + 1)) = pre (ps ++ [j]) (ts ++ [t]) (pks (pv f) (d - (k + 1)) 44 (from_ s a5))) := Lib.hid (by
                    have h3 := HX1.out
                    rw [HM.out, pre_step (pv f) ps ts HSG.out H6.out H7.out H9.out HJ.out] at h3
                    have h4 := HM.out
                    rw [h3, show d - (k + 1) = m by omega])
                  have HGT : Hid (∀ u ∈ ts ++ [t], u.good = true) := Lib.hid fun u hu => by
                    rcases List.mem_append.1 hu with h | h
                    · exact HGD.out u h
                    · rw [List.mem_singleton.1 h]; exact HG9.out
                  have HST : Hid (∀ u ∈ ts ++ [t], ∀ v ∈ ts ++ [t], u.dep = v.dep) := Lib.hid fun u hu v hv => by
                    rcases List.mem_append.1 hu with h | h <;> rcases List.mem_append.1 hv with h' | h'
                    · exact HSM.out u h v h'
                    · rw [List.mem_singleton.1 h']; exact (HSE.out u h).symm
                    · rw [List.mem_singleton.1 h]; exact HSE.out v h'
                    · rw [List.mem_singleton.1 h, List.mem_singleton.1 h']
                  have HREL : Hid (∀ vp' vt' W, ViSt w gr p s (a5 : Nat) d i 0 vp' vt' vp' vt' (ps ++ [j]) (qs ++ [q]) (qs ++ [q]) (ts ++ [t]) W → ViRel f w gr p s (a + 1 + 1 + 1) d i (.int .i64 ((k : Int) + 1)) W) := Lib.hid fun vp' vt' W hst =>
                    ⟨k + 1, a5, a5, vp', vt', ps ++ [j], qs ++ [q], ts ++ [t], 44, by omega, by go_num, ha5, ha5l, by simp [hpl], by simp [hql], by simp [htl], hst, HXT.out, fun h => absurd h (by omega), fun _ => ⟨rfl, rfl⟩, HGT.out, HST.out⟩
                  refine viReg20 HS9.out (by omega) (by omega) _ _ _ _ _ _ _ _ _ _ _ _ _ _ _ _ _ _ _ _ _ _ _ _ _ _ _ _ _ _ _ _ _ _ _ _ _ _ _ _ _ _ _ _ _ _ _ _ _ _ _ _ _ _ _ _ _ _ _ _ _ _ _ _ _ _ _ _ _ _ _ _ _ _ _ _ _ _ _ _ _ _ _ _ _ _ _ _ _ _ _ _ _ _ _ _ _ _ _ _ _ _ _ _ _ _ _ _ _ _ _ _ _ _ _ _ _ _ _ _ _ _ _ _ _ _ _ _ _ _ _ _ _ _ _ _ _ _ _ _ ?_
                  intro vp' vt' W hst
                  have HSA := Lib.hid (HREL.out vp' vt' W hst)
                  intro _ _ _ _ _ _ _ _ _ _ _ _ _ _ _ _ _ _ _ _
                  clear hst
                  go_wp2_with fail
                  go_roundw
                  case rel => exact HSA.out
                  case measure => simp [intOf]; omega
                · obtain rfl : k = d := by omega
                  have hkp : 0 < k := by omega
                  obtain ⟨rfl, rfl⟩ := HK1.out hkp
                  have HXX : Hid (pv (f + 1) (from_ s a) = fin k i (some (ps, ts, from_ s b0))) := Lib.hid (by rw [HX.out, HX1.out, Nat.sub_self, pre_zero])
                  obtain ⟨g, cap, hvt, -, -, -, -⟩ := HS.out.own2.addr (by omega)
                  subst hvt
                  have kg := (HS.out.own2.at_ (j := 0) (by omega)).1 0 (by decide)
                  obtain ⟨-, k04, -, -⟩ := (HS.out.trees.at_ (j := 0) (by omega)).deg
                  simp only [encP, Nat.zero_mul, Nat.add_zero, List.getElem?_cons_zero] at kg
                  have hql0 : (0 : Int) < (qs.length : Int) := by omega
                  have hql1 : 0 < qs.length := by omega
                  have hde : deps ts = (ga ts 0).dep + 1 := deps_same (fun t ht => HSM.out t ht _ (ga_mem (by omega))) (fun e => by rw [e] at htl; simp at htl; omega)
                  have hdl : (ga ts 0).dep ≤ 80 := by
                    have := HGD.out _ (ga_mem (xs := ts) (j := 0) (by omega))
                    simp only [VT.good, Bool.and_eq_true, decide_eq_true_eq] at this
                    exact this.2
                  have hw1 : IntKind.i64.wrap (((ga ts 0).dep : Int) + 1) = ((ga ts 0).dep : Int) + 1 := IntWalk.i64_in _ (by omega)
                  have HS1 := Lib.hid (HS.out.put4 (((ga ts 0).dep : Int) + 1))
                  have hf := HS.out.node.free
                  have HDE := Lib.hid hde
                  clear hde
                  cases h5 : sgn 41 (from_ s b0) with
                  | none =>
                    have HN : Hid (pg (f + 1) (from_ s a) = none) := Lib.hid (pg_none (by rw [HXX.out]; simp [fin, h5]))
                    have C5 := Lib.hid (rdNext_n 41 41 rfl _ gr s b0 HS1.out.rdr hal h5)
                    clear h5
                    go_wp2_with fail
                    refine C5.out.mono ?_
                    rintro e w5 ⟨rfl, hm5⟩
                    have HS5 := Lib.hid (HS1.out.moved hm5.1 hm5.2)
                    clear hm5
                    go_wp2_with fail
                    go_ret
                    exact RetView.nil HN.out hal HS5.out.mv
                  | some l5 =>
                    obtain ⟨ha5, hl5⟩ := sgn_lt h5
                    subst hl5
                    have HP : Hid (pv (f + 1) (from_ s a) = some (.mk k i ps ts, from_ s (b0 + 1))) := Lib.hid (by rw [HXX.out]; simp [fin, h5])
                    have C5 := Lib.hid (rdNext_y 41 41 rfl _ gr s b0 _ HS1.out.rdr hs h5)
                    clear h5
                    go_wp2_with fail
                    refine C5.out.mono ?_
                    rintro e w5 ⟨rfl, hm5⟩
                    have hs5 := HS1.out.moved hm5.1 hm5.2
                    have HS5 := Lib.hid hs5
                    have k5 := hs5.node.cell
                    clear hm5 hs5
                    by_cases h80 : (ga ts 0).dep + 1 ≤ 80
                    · have hgt : (VT.mk k i ps ts).good = true := good_mk HGD.out HSM.out (by rw [HDE.out]; exact h80)
                      have HN := Lib.hid (pg_some HP.out hgt)
                      have e1 : ¬ (80 : Int) < ((ga ts 0).dep : Int) + 1 := by omega
                      clear hgt
                      go_wp2_with fail
                      go_ret
                      refine RetView.ptr HN.out (by omega) HS5.out.mv ?_
                      have := HS5.out
                      have e2 : ((ga ts 0).dep : Int) + 1 = ((deps ts : Nat) : Int) := by rw [HDE.out]; rfl
                      rw [e2] at this
                      exact NodeSt.tree this
                    · have HN : Hid (pg (f + 1) (from_ s a) = none) := Lib.hid (pg_bad fun t r ht => by
                        rw [HP.out] at ht
                        simp only [Option.some.injEq, Prod.mk.injEq] at ht
                        obtain ⟨rfl, rfl⟩ := ht
                        simp only [VT.good, dep_mk, HDE.out, Bool.and_eq_false_iff, decide_eq_false_iff_not]
                        exact .inr h80)
                      have e1 : (80 : Int) < ((ga ts 0).dep : Int) + 1 := by omega
                      go_wp2_with fail
                      go_ret
                      exact RetView.nil HN.out (by omega) HS5.out.mv
end Go.Proofs.YtljjbhihllnnaaaGreat

namespace Go.Proofs.YtljjbhihllnnaaaGreat
open Go.RowKit

/-- a tree of a view's text, or none -/
def RetTr (w : World) (x : Option VT) (e : Ending) (w' : World) : Prop := Below w.heap.size w w' ∧ (match x with
  | none => e = .returned (.pointer none)
  | some t => ∃ p, e = .returned (.pointer (some ⟨p, 0, none⟩)) ∧ TreeR w' (fun b => w.heap.size ≤ b) t p)
theorem RetTr.nil {w w' : World} {x : Option VT} (h : x = none) (hb : Below w.heap.size w w') : RetTr w x (.returned (.pointer none)) w' := by subst h; exact ⟨hb, rfl⟩
theorem RetTr.ptr {w w' : World} {x : Option VT} {t : VT} {p : Nat} (h : x = some t) (hb : Below w.heap.size w w') (ht : TreeR w' (fun b => w.heap.size ≤ b) t p) : RetTr w x (.returned (.pointer (some ⟨p, 0, none⟩))) w' := by subst h; exact ⟨hb, p, rfl, ht⟩
theorem from_nil_of {s : ByteArray} {a : Nat} (h : ¬ a < s.size) : from_ s a = [] := from_end (by omega)
theorem viewOf_some {s : ByteArray} {t : VT} {a : Nat} (hs : s.size ≤ 4000) (h : pg (s.size + 1) (from_ s 0) = some (t, from_ s a)) (ha : ¬ a < s.size) : viewOf s = some t := by
  unfold viewOf; rw [if_pos hs, h, from_nil_of ha]
theorem viewOf_rest {s : ByteArray} {t : VT} {a : Nat} (h : pg (s.size + 1) (from_ s 0) = some (t, from_ s a)) (ha : a < s.size) : viewOf s = none := by
  unfold viewOf; rw [h, from_lt ha]; split <;> rfl
theorem viewOf_none {s : ByteArray} (h : pg (s.size + 1) (from_ s 0) = none) : viewOf s = none := by
  unfold viewOf; rw [h]; split <;> rfl
theorem viewOf_long {s : ByteArray} (h : ¬ s.size ≤ 4000) : viewOf s = none := by
  unfold viewOf; rw [if_neg h]
theorem Moved.new {t : TypeId} {w w' : World} {s : ByteArray} {a : Nat} {o : Obj} (h : Moved t (w.alloc o) w' w.heap.size s a) : Below w.heap.size w w' :=
  ((Below.refl w.heap.size w).alloc (Nat.le_refl _) o).grown h.2 (by simp) (fun k hk => by cases hk; exact Nat.le_refl _)

set_option maxRecDepth 100000 in
set_option maxHeartbeats 1000000 in
theorem readView_any (s : ByteArray) (w : World) : Calls Tryz.prog 59 #[.string s] w (RetTr w (viewOf s)) := by
  by_cases hs : s.size ≤ 4000
  case neg =>
    have HN := Lib.hid (viewOf_long hs)
    have e1 : (4000 : Int) < (s.size : Int) := by omega
    clear hs
    go_enter Tryz.func59, Tryz.ntmps59
    go_wp2_with fail
    go_ret
    exact RetTr.nil HN.out (Below.refl _ _)
  have e1 : ¬ (4000 : Int) < (s.size : Int) := by omega
  go_enter Tryz.func59, Tryz.ntmps59
  go_wp2_with fail
  refine (rdView (s.size + 1) _ w.heap.size s 0 (Blk.new w _ _) (by omega) hs (by omega)).mono ?_
  rintro e w1 ⟨a, ha, hm, hres⟩
  have HM := Lib.hid hm.new
  have HA := Lib.hid (by simp : w.heap.size ≤ (w.alloc (.cells #[.string s, .int .i64 (0 : Nat)] 157)).heap.size)
  have kr := hm.1.cell
  clear hm
  cases hp : pg (s.size + 1) (from_ s 0) with
  | none =>
    rw [hp] at hres
    have hres : e = .returned (.pointer none) := hres
    subst hres
    have HN := Lib.hid (viewOf_none hp)
    clear hp
    by_cases hl : a < s.size
    · go_wp2_with fail
      go_ret
      exact RetTr.nil HN.out HM.out
    · go_wp2_with fail
      go_ret
      exact RetTr.nil HN.out HM.out
  | some x =>
    obtain ⟨t, r⟩ := x
    rw [hp] at hres
    obtain ⟨rfl, p, rfl, ht⟩ := hres
    by_cases hl : a < s.size
    · have HN := Lib.hid (viewOf_rest hp hl)
      clear hp ht
      go_wp2_with fail
      go_ret
      exact RetTr.nil HN.out HM.out
    · have HN := Lib.hid (viewOf_some hs hp hl)
      have HT := Lib.hid (ht.weak (S' := fun b => w.heap.size ≤ b) (fun b hb => by have := HA.out; omega))
      clear hp ht
      go_wp2_with fail
      go_ret
      exact RetTr.ptr HN.out HM.out HT.out
end Go.Proofs.YtljjbhihllnnaaaGreat

namespace Go.Proofs.YtljjbhihllnnaaaGreat
open Go.RowKit

theorem spDigit_u (w : World) (gr : Nat) (s : ByteArray) (a m : Nat) (o : Bool) (h : Blk w gr 164 #[.string s, .int .i64 (a : Nat), .bool o]) (ha : a ≤ s.size) (hs : s.size ≤ 4000) :
    Calls Tryz.prog 168 #[.pointer (some ⟨gr, 0, none⟩), .int .i64 (m : Nat)] w fun e w' => ∃ (d a' : Nat) (o' : Bool), e = .returned (.int .i64 (d : Nat)) ∧ d ≤ m ∧ a' ≤ s.size ∧ a ≤ a' ∧ MovS w w' gr s a' o' ∧
      (o' = true → o = true ∧ a < a' ∧ dgt m (from_ s a) = some (d, from_ s a')) ∧ (o' = false → o = false ∨ dgt m (from_ s a) = none) := by
  cases hd : dgt m (from_ s a) with
  | none =>
    refine (spDigit_no w gr s a m o h ha hd).mono ?_
    rintro e w' ⟨rfl, hm⟩
    exact ⟨0, a, false, rfl, by omega, ha, Nat.le_refl _, hm, (fun h => by cases h), fun _ => .inr rfl⟩
  | some x =>
    obtain ⟨d, r⟩ := x
    obtain ⟨h1, h2, h3, h4⟩ := dgt_from hd
    refine (spDigit_yes w gr s a m d o r h hs hd).mono ?_
    rintro e w' ⟨rfl, hm⟩
    exact ⟨d, a + 1, o, rfl, h3, by omega, by omega, hm, fun ho => ⟨ho, by omega, by rw [h4]⟩, fun ho => .inl ho⟩
theorem spSign_u (z : Int) (b : UInt8) (hz : z = (b.toNat : Nat)) (w : World) (gr : Nat) (s : ByteArray) (a : Nat) (o : Bool) (h : Blk w gr 164 #[.string s, .int .i64 (a : Nat), .bool o]) (ha : a ≤ s.size) (hs : s.size ≤ 4000) :
    Calls Tryz.prog 169 #[.pointer (some ⟨gr, 0, none⟩), .int .u8 z] w fun e w' => ∃ (a' : Nat) (o' : Bool), e = .returned (.tuple #[]) ∧ a' ≤ s.size ∧ a ≤ a' ∧ MovS w w' gr s a' o' ∧
      (o' = true → o = true ∧ a < a' ∧ sgn b (from_ s a) = some (from_ s a')) ∧ (o' = false → o = false ∨ sgn b (from_ s a) = none) := by
  cases hd : sgn b (from_ s a) with
  | none =>
    refine (spSign_no z b hz w gr s a o h ha hd).mono ?_
    rintro e w' ⟨rfl, hm⟩
    exact ⟨a, false, rfl, ha, Nat.le_refl _, hm, (fun h => by cases h), fun _ => .inr rfl⟩
  | some r =>
    obtain ⟨h1, h2, h4⟩ := sgn_from hd
    refine (spSign_yes z b hz w gr s a o r h hs hd).mono ?_
    rintro e w' ⟨rfl, hm⟩
    exact ⟨a + 1, o, rfl, by omega, by omega, hm, fun ho => ⟨ho, by omega, by rw [h4]⟩, fun ho => .inl ho⟩

/-- what the reference's reader of views gives -/
def SvPost (f : Nat) (w : World) (gr : Nat) (s : ByteArray) (a : Nat) (o : Bool) (e : Ending) (w' : World) : Prop :=
  ∃ (p a' : Nat) (o' : Bool) (dg i dp : Nat) (vp vt : Value), e = .returned (.pointer (some ⟨p, 0, none⟩)) ∧ a' ≤ s.size ∧ a ≤ a' ∧ MovS w w' gr s a' o' ∧ w.heap.size ≤ p ∧
    Blk w' p 114 #[.int .i64 (dg : Nat), .int .i64 (i : Nat), vp, vt, .int .i64 (dp : Nat)] ∧ dp ≤ f ∧
    (o' = true → o = true ∧ a < a' ∧ ∃ t, pv f (from_ s a) = some (t, from_ s a') ∧ TreeR w' (fun b => w.heap.size ≤ b) t p ∧ dg = t.deg ∧ dp = t.dep) ∧ (o' = false → o = false ∨ pv f (from_ s a) = none)
/-- the reference's node -/
abbrev SvSt (w : World) (gr p : Nat) (s : ByteArray) (a : Int) (o : Bool) (d i dp : Int) (vp0 vt0 vp vt : Value) (ps qs rs : List Nat) (ts : List VT) (wr : World) : Prop := NodeSt 164 114 109 w gr p #[.string s, .int .i64 a, .bool o] d i dp vp0 vt0 vp vt ps qs rs ts wr
theorem NodeSt.mvS {TN TP : TypeId} {w wr : World} {gr p : Nat} {s : ByteArray} {a : Nat} {o : Bool} {d i dp : Int} {vp0 vt0 vp vt : Value} {ps qs rs : List Nat} {ts : List VT} (h : NodeSt 164 TN TP w gr p #[.string s, .int .i64 (a : Nat), .bool o] d i dp vp0 vt0 vp vt ps qs rs ts wr) : MovS w wr gr s a o := ⟨h.rdr, h.grw⟩
/-- the loop over the parts -/
def SvRel (f : Nat) (w : World) (gr p : Nat) (s : ByteArray) (a a3 d i : Nat) (c : Value) (wr : World) : Prop :=
  ∃ (k a1 : Nat) (o : Bool) (dp : Nat) (vp vt : Value) (ps qs rs : List Nat) (ts : List VT), c = .int .i64 k ∧ k ≤ d ∧ a1 ≤ s.size ∧ a3 ≤ a1 ∧ dp ≤ f + 1 ∧ ps.length = k ∧ qs.length = k ∧
    SvSt w gr p s (a1 : Nat) o d i dp vp vt vp vt ps qs rs ts wr ∧
    (o = true → rs = qs ∧ ts.length = k ∧ dp = deps ts ∧ pks (pv f) d 40 (from_ s a3) = pre ps ts (pks (pv f) (d - k) (if k = 0 then 40 else 44) (from_ s a1))) ∧ (o = false → pv (f + 1) (from_ s a) = none)
theorem ptrTS : Nonempty (ElemT Tryz.prog encP 112 109) := ElemT.of (z := .pointer none) (n := 1) (bytes := 8) Tryz.underlying112 (by kernel_rfl) rfl rfl (by omega)
theorem SvPost.bad {f : Nat} {w wr : World} {gr p : Nat} {s : ByteArray} {a a' : Nat} {o : Bool} {dg i dp : Nat} {vp0 vt0 vp vt : Value} {ps qs rs : List Nat} {ts : List VT} (h : SvSt w gr p s (a' : Nat) false dg i dp vp0 vt0 vp vt ps qs rs ts wr) (ha : a' ≤ s.size) (haa : a ≤ a') (hdp : dp ≤ f) (hb : o = false ∨ pv f (from_ s a) = none) :
    SvPost f w gr s a o (.returned (.pointer (some ⟨p, 0, none⟩))) wr :=
  ⟨p, a', false, dg, i, dp, vp0, vt0, rfl, ha, haa, h.mvS, h.hp, h.node, hdp, (fun h => by cases h), fun _ => hb⟩
theorem SvPost.ok {f : Nat} {w wr : World} {gr p : Nat} {s : ByteArray} {a a' : Nat} {d i : Nat} {vp vt : Value} {ps qs : List Nat} {ts : List VT} (h : SvSt w gr p s (a' : Nat) true d i (deps ts : Nat) vp vt vp vt ps qs qs ts wr) (ha : a' ≤ s.size) (haa : a < a') (hdp : deps ts ≤ f) (hb : pv f (from_ s a) = some (.mk d i ps ts, from_ s a')) :
    SvPost f w gr s a true (.returned (.pointer (some ⟨p, 0, none⟩))) wr :=
  ⟨p, a', true, d, i, deps ts, vp, vt, rfl, ha, by omega, h.mvS, h.hp, h.node, hdp, fun _ => ⟨rfl, haa, _, hb, NodeSt.tree h, rfl, dep_mk.symm⟩, fun h => by cases h⟩
theorem MovS.drew_ {w w' : World} {gr : Nat} {s : ByteArray} {a : Nat} {o : Bool} (h : MovS w w' gr s a o) (n : Nat) : MovS w (w'.drewN n) gr s a o := h.trans (MovS.same h.1 n)
theorem NodeSt.drewN_ {TR TN TP : TypeId} {w wr : World} {gr p : Nat} {rd : Array Value} {d i dp : Int} {vp0 vt0 vp vt : Value} {ps qs rs : List Nat} {ts : List VT} (h : NodeSt TR TN TP w gr p rd d i dp vp0 vt0 vp vt ps qs rs ts wr) (n : Nat) : NodeSt TR TN TP w gr p rd d i dp vp0 vt0 vp vt ps qs rs ts (wr.drewN n) := h.below (below_drewN (Below.refl _ _) n)

theorem sv_none {p : List UInt8 → Option (VT × List UInt8)} {m j dg a1 a4 a5 a6 a8 : Nat} {sep : UInt8} {s : ByteArray} {o4 o5 o6 o8 o9 : Bool}
    (t4 : o4 = true → sgn sep (from_ s a1) = some (from_ s a4)) (f4 : o4 = false → sgn sep (from_ s a1) = none)
    (t5 : o5 = true → o4 = true ∧ dgt 5 (from_ s a4) = some (j, from_ s a5)) (f5 : o5 = false → o4 = false ∨ dgt 5 (from_ s a4) = none)
    (t6 : o6 = true → o5 = true ∧ sgn 58 (from_ s a5) = some (from_ s a6)) (f6 : o6 = false → o5 = false ∨ sgn 58 (from_ s a5) = none)
    (t8 : o8 = true → o6 = true ∧ ∃ t, p (from_ s a6) = some (t, from_ s a8) ∧ dg = t.deg) (f8 : o8 = false → o6 = false ∨ p (from_ s a6) = none)
    (h9 : o9 = (o8 && decide (j < dg))) (hf : o9 = false) : pks p (m + 1) sep (from_ s a1) = none := by
  cases o4 with
  | false => exact pks_none1 _ (f4 rfl)
  | true =>
    have k4 := t4 rfl
    cases o5 with
    | false =>
      rcases f5 rfl with h | h
      · cases h
      · exact pks_none2 _ k4 h
    | true =>
      have k5 := (t5 rfl).2
      cases o6 with
      | false =>
        rcases f6 rfl with h | h
        · cases h
        · exact pks_none3 _ k4 k5 h
      | true =>
        have k6 := (t6 rfl).2
        cases o8 with
        | false =>
          rcases f8 rfl with h | h
          · cases h
          · exact pks_none4 _ k4 k5 k6 h
        | true =>
          obtain ⟨-, t, h, hd⟩ := t8 rfl
          refine pks_none5 _ k4 k5 k6 h ?_
          rw [hf] at h9
          simp at h9
          omega

set_option maxRecDepth 100000 in
set_option maxHeartbeats 2000000 in
theorem spView_false (f : Nat) (w : World) (gr : Nat) (s : ByteArray) (a : Nat) (hb : Blk w gr 164 #[.string s, .int .i64 (a : Nat), .bool false]) (ha : a ≤ s.size) (hs : s.size ≤ 4000) :
    Calls Tryz.prog 125 #[.pointer (some ⟨gr, 0, none⟩)] w (SvPost f w gr s a false) := by
  have hgl : gr < w.heap.size := hb.lt
  have HB := Lib.hid hb
  clear hb
  go_enter Tryz.func125, Tryz.ntmps125
  go_wp2_with fail
  refine (spDigit_u w gr s a 6 false HB.out ha hs).mono ?_
  rintro e w1 ⟨d, a1, o1, rfl, hd6, ha1, haa1, hm1, ht1, hf1⟩
  have hz1 : w.heap.size ≤ w1.heap.size := hm1.2.size
  have hst : SvSt w gr w1.heap.size s (a1 : Nat) o1 d 0 0 (.slice none 0 0) (.slice none 0 0) (.slice none 0 0) (.slice none 0 0) [] [] [] [] (w1.alloc (.cells #[.int .i64 d, .int .i64 0, .slice none 0 0, .slice none 0 0, .int .i64 0] 114)) := NodeSt.new hm1.1 hgl hm1.2 d
  have HS := Lib.hid hst
  have HT1 := Lib.hid ht1
  have HF1 := Lib.hid hf1
  clear hm1 hst ht1 hf1
  obtain ⟨p, hp⟩ : ∃ p, p = w1.heap.size := ⟨_, rfl⟩
  have hpz : w.heap.size ≤ p := by omega
  go_wp2_with fail
  rw [← hp] at HS ⊢
  clear hp
  generalize w1.alloc _ = wa at *
  refine (spSign_u 46 46 rfl wa gr s a1 o1 HS.out.rdr ha1 hs).mono ?_
  rintro e w2 ⟨a2, o2, rfl, ha2, haa2, hm2, ht2, hf2⟩
  have HS2 := Lib.hid (HS.out.moved hm2.1 hm2.2)
  have HT2 := Lib.hid ht2
  have HF2 := Lib.hid hf2
  clear hm2 ht2 hf2 HS
  go_wp2_with fail
  refine (spDigit_u w2 gr s a2 9 o2 HS2.out.rdr ha2 hs).mono ?_
  rintro e w3 ⟨i, a3, o3, rfl, hi9, ha3, haa3, hm3, ht3, hf3⟩
  have HS3 := Lib.hid (HS2.out.moved hm3.1 hm3.2)
  have HS4 := Lib.hid (HS3.out.put1 (i : Int))
  have HT3 := Lib.hid ht3
  have HF3 := Lib.hid hf3
  have hc3 := HS3.out.node.cell
  have hf3' := HS3.out.node.free
  have hr3 := HS3.out.rdr.cell
  clear hm3 ht3 hf3 HS2
  cases o3 with
  | true => exact absurd (HT1.out (HT2.out (HT3.out rfl).1).1).1 (by simp)
  | false =>
    go_wp2_with fail
    go_quiet (fail)
    go_wp2_with fail
    go_ret
    exact SvPost.bad (dp := 0) (HS4.out.drewN_ _) ha3 (by omega) (Nat.zero_le _) (.inl rfl)

set_option maxRecDepth 100000 in
set_option maxHeartbeats 4000000 in
theorem spView (f : Nat) : ∀ (w : World) (gr : Nat) (s : ByteArray) (a : Nat) (o : Bool), Blk w gr 164 #[.string s, .int .i64 (a : Nat), .bool o] → a ≤ s.size → s.size ≤ 4000 → (o = true → s.size - a < f) → f ≤ 8000 →
    Calls Tryz.prog 125 #[.pointer (some ⟨gr, 0, none⟩)] w (SvPost f w gr s a o) := by
  induction f with
  | zero =>
    intro w gr s a o hb ha hs hf _
    cases o with
    | true => exact absurd (hf rfl) (by omega)
    | false => exact spView_false 0 w gr s a hb ha hs
  | succ f ih =>
    intro w gr s a o hb ha hs hf hf8
    cases o with
    | false => exact spView_false (f + 1) w gr s a hb ha hs
    | true =>
    have hf := hf rfl
    have HB := Lib.hid hb
    have IH := Lib.hid ih
    have hgl : gr < w.heap.size := hb.lt
    clear hb ih
    go_enter Tryz.func125, Tryz.ntmps125
    go_wp2_with fail
    refine (spDigit_u w gr s a 6 true HB.out ha hs).mono ?_
    rintro e w1 ⟨d, a1, o1, rfl, hd6, ha1, haa1, hm1, ht1, hf1⟩
    have hz1 : w.heap.size ≤ w1.heap.size := hm1.2.size
    have hst : SvSt w gr w1.heap.size s (a1 : Nat) o1 d 0 0 (.slice none 0 0) (.slice none 0 0) (.slice none 0 0) (.slice none 0 0) [] [] [] [] (w1.alloc (.cells #[.int .i64 d, .int .i64 0, .slice none 0 0, .slice none 0 0, .int .i64 0] 114)) := NodeSt.new hm1.1 hgl hm1.2 d
    have HS := Lib.hid hst
    have HT1 := Lib.hid ht1
    have HF1 := Lib.hid hf1
    clear hm1 hst ht1 hf1
    obtain ⟨p, hp⟩ : ∃ p, p = w1.heap.size := ⟨_, rfl⟩
    have hpz : w.heap.size ≤ p := by omega
    go_wp2_with fail
    rw [← hp] at HS ⊢
    clear hp
    generalize w1.alloc _ = wa at *
    refine (spSign_u 46 46 rfl wa gr s a1 o1 HS.out.rdr ha1 hs).mono ?_
    rintro e w2 ⟨a2, o2, rfl, ha2, haa2, hm2, ht2, hf2⟩
    have HS2 := Lib.hid (HS.out.moved hm2.1 hm2.2)
    have HT2 := Lib.hid ht2
    have HF2 := Lib.hid hf2
    clear hm2 ht2 hf2 HS
    go_wp2_with fail
    refine (spDigit_u w2 gr s a2 9 o2 HS2.out.rdr ha2 hs).mono ?_
    rintro e w3 ⟨i, a3, o3, rfl, hi9, ha3, haa3, hm3, ht3, hf3⟩
    have HS3 := Lib.hid (HS2.out.moved hm3.1 hm3.2)
    have HS4 := Lib.hid (HS3.out.put1 (i : Int))
    have HT3 := Lib.hid ht3
    have HF3 := Lib.hid hf3
    have hc3 := HS3.out.node.cell
    have hf3' := HS3.out.node.free
    have hr3 := HS3.out.rdr.cell
    clear hm3 ht3 hf3 HS2
    cases o3 with
    | false =>
      have HN : Hid (pv (f + 1) (from_ s a) = none) := Lib.hid (by
        rcases HF3.out rfl with h3 | h3
        · rcases HF2.out h3 with h2 | h2
          · rcases HF1.out h2 with h1 | h1
            · cases h1
            · exact pv_no1 h1
          · cases o1 with
            | true => exact pv_no2 (HT1.out rfl).2.2 h2
            | false =>
              rcases HF1.out rfl with h1 | h1
              · cases h1
              · exact pv_no1 h1
        · cases o2 with
          | true => exact pv_no3 (HT1.out (HT2.out rfl).1).2.2 (HT2.out rfl).2.2 h3
          | false =>
            rcases HF2.out rfl with h2 | h2
            · rcases HF1.out h2 with h1 | h1
              · cases h1
              · exact pv_no1 h1
            · cases o1 with
              | true => exact pv_no2 (HT1.out rfl).2.2 h2
              | false =>
                rcases HF1.out rfl with h1 | h1
                · cases h1
                · exact pv_no1 h1)
      go_wp2_with fail
      go_quiet (fail)
      go_wp2_with fail
      go_ret
      exact SvPost.bad (dp := 0) (HS4.out.drewN_ _) ha3 (by omega) (Nat.zero_le _) (.inr HN.out)
    | true =>
    obtain ⟨rfl, hlt3, h3⟩ := HT3.out rfl
    obtain ⟨rfl, hlt2, h2⟩ := HT2.out rfl
    obtain ⟨-, hlt1, h1⟩ := HT1.out rfl
    have H1 := Lib.hid h1
    have H2 := Lib.hid h2
    have H3 := Lib.hid h3
    clear h1 h2 h3 HT1 HT2 HT3 HF1 HF2 HF3
    by_cases hd : d = 0
    · subst hd
      have HN := Lib.hid (pv_leaf (f := f) H1.out H2.out H3.out (.inl rfl))
      go_wp2_with fail
      go_quiet (fail)
      go_wp2_with fail
      go_ret
      exact SvPost.ok (ts := []) (ps := []) (qs := []) (HS4.out.drewN_ _) ha3 (by omega) (Nat.zero_le _) HN.out
    have hde : ((d : Int) == 0) = false := by simp [hd]
    cases h4 : sgn 40 (from_ s a3) with
    | none =>
      have HN := Lib.hid (pv_leaf (f := f) H1.out H2.out H3.out (.inr h4))
      by_cases hl : a3 < s.size
      · have hne := sgn_from_none h4 hl
        have e1 : ((a3 : Int) == (s.size : Int)) = false := by simp; omega
        have e2 : ((s[a3].toNat : Int) != 40) = true := by
          simp only [bne_iff_ne, ne_eq]
          intro e
          exact hne (UInt8.toNat_inj.1 (by have : (40 : UInt8).toNat = 40 := rfl; omega))
        have i1 : (0 : Int) ≤ (a3 : Int) := by omega
        have i2 : (a3 : Int) < (s.size : Int) := by omega
        clear h4 hne
        go_wp2_with fail
        go_quiet (fail)
        go_wp2_with fail
        go_ret
        exact SvPost.ok (ts := []) (ps := []) (qs := []) (HS4.out.drewN_ _) ha3 (by omega) (Nat.zero_le _) HN.out
      · obtain rfl : a3 = s.size := by omega
        have e1 : ((s.size : Int) == (s.size : Int)) = true := by simp
        clear h4 hl
        go_wp2_with fail
        go_quiet (fail)
        go_wp2_with fail
        go_ret
        exact SvPost.ok (ts := []) (ps := []) (qs := []) (HS4.out.drewN_ _) ha3 (by omega) (Nat.zero_le _) HN.out
    | some l4 =>
    obtain ⟨hl4, hb4, hr4⟩ := sgn_from h4
    have HX := Lib.hid (pv_kids (f := f) H1.out H2.out H3.out hd h4)
    have e1 : ((a3 : Int) == (s.size : Int)) = false := by simp; omega
    have e2 : ((s[a3].toNat : Int) != 40) = false := by rw [hb4]; rfl
    have i1 : (0 : Int) ≤ (a3 : Int) := by omega
    have i2 : (a3 : Int) < (s.size : Int) := by omega
    clear h4 hb4 hr4
    go_wp2_with fail
    go_quiet (fail)
    go_wp2_with fail
    have HS5 := Lib.hid (HS4.out.drewN_ nq)
    clear HS4 HS3 hc3 hf3' hr3 e1
    generalize (World.setCell w3 ⟨p, 1, none⟩ (.int .i64 (i : Nat))).drewN nq = w5 at *
    go_loopw [4] (fun c wr => SvRel f w gr p s a a3 d i c wr) (fun c _ => d - (intOf c).toNat)
    case atStart => exact ⟨0, a3, true, 0, _, _, [], [], [], [], rfl, Nat.zero_le _, ha3, Nat.le_refl _, Nat.zero_le _, rfl, rfl, HS5.out, fun _ => ⟨rfl, rfl, rfl, (pre_nil _).symm⟩, fun h => by cases h⟩
    case round =>
      clear HS5
      obtain ⟨k, a1, o, dp, vp, vt, ps, qs, rs, ts, rfl, hk, hal, haf, hdp, hpl, hql, hst, htr, hfa⟩ := hrel
      have HS := Lib.hid hst
      have HT := Lib.hid htr
      have HF := Lib.hid hfa
      have hc := hst.node.cell
      have hr := hst.rdr.cell
      clear hst htr hfa
      by_cases hlt : k < d ∧ o = true
      · obtain ⟨hlt, rfl⟩ := hlt
        obtain ⟨m, hm⟩ : ∃ m, d - k = m + 1 := ⟨d - k - 1, by omega⟩
        obtain ⟨hrq, htl, hdd, hx⟩ := HT.out rfl
        subst hrq hdd
        obtain ⟨sep, hsep⟩ : ∃ sep : UInt8, sep = if k = 0 then 40 else 44 := ⟨_, rfl⟩
        have HXX : Hid (pv (f + 1) (from_ s a) = fin d i (pre ps ts (pks (pv f) (m + 1) sep (from_ s a1)))) := Lib.hid (by rw [HX.out, hx, hm, ← hsep])
        have HX1 : Hid (pks (pv f) d 40 (from_ s a3) = pre ps ts (pks (pv f) (m + 1) sep (from_ s a1))) := Lib.hid (by rw [hx, hm, ← hsep])
        have HM := Lib.hid hm
        have HSEP := Lib.hid hsep
        clear hm hx hsep HT HF
        go_upto_if 70 with (fail)
        go_cut [] (fun W => ∃ (a4 : Nat) (o4 : Bool), a4 ≤ s.size ∧ a1 ≤ a4 ∧ SvSt w gr p s (a4 : Nat) o4 d i (deps ts : Nat) vp vt vp vt ps rs rs ts W ∧ (o4 = true → sgn sep (from_ s a1) = some (from_ s a4)) ∧ (o4 = false → sgn sep (from_ s a1) = none))
        case first =>
          by_cases hk0 : k = 0
          · have e1 : ((k : Int) == 0) = true := by simp [hk0]
            have C4 := Lib.hid (spSign_u 40 40 rfl wr gr s a1 true HS.out.rdr hal hs)
            have HE : Hid (sep = 40) := Lib.hid (by rw [HSEP.out, if_pos hk0])
            clear hk0
            go_wp2_with (go_at_call 169; refine C4.out.mono ?_; rintro e w4 ⟨a4, o4, rfl, ha4, haa4, hm4, ht4, hf4⟩; have HS4 := Lib.hid (HS.out.moved hm4.1 hm4.2); have HT4 := Lib.hid ht4; have HF4 := Lib.hid hf4; clear hm4 ht4 hf4)
            go_meet
            exact ⟨a4, o4, ha4, haa4, HS4.out, fun h => by rw [HE.out]; exact (HT4.out h).2.2, fun h => by rw [HE.out]; rcases HF4.out h with h | h; cases h; exact h⟩
          · have e1 : ((k : Int) == 0) = false := by simp [hk0]
            have C4 := Lib.hid (spSign_u 44 44 rfl wr gr s a1 true HS.out.rdr hal hs)
            have HE : Hid (sep = 44) := Lib.hid (by rw [HSEP.out, if_neg hk0])
            clear hk0
            go_wp2_with (go_at_call 169; refine C4.out.mono ?_; rintro e w4 ⟨a4, o4, rfl, ha4, haa4, hm4, ht4, hf4⟩; have HS4 := Lib.hid (HS.out.moved hm4.1 hm4.2); have HT4 := Lib.hid ht4; have HF4 := Lib.hid hf4; clear hm4 ht4 hf4)
            go_meet
            exact ⟨a4, o4, ha4, haa4, HS4.out, fun h => by rw [HE.out]; exact (HT4.out h).2.2, fun h => by rw [HE.out]; rcases HF4.out h with h | h; cases h; exact h⟩
        case rest =>
        obtain ⟨a4, o4, ha4, haa4, hst4, ht4, hf4⟩ := hcut
        have HS4 := Lib.hid hst4
        have HT4 := Lib.hid ht4
        have HF4 := Lib.hid hf4
        clear hst4 ht4 hf4 HS hc hr
        go_wp2_with fail
        refine (spDigit_u _ gr s a4 5 o4 HS4.out.rdr ha4 hs).mono ?_
        rintro e w5 ⟨j, a5, o5, rfl, hj5, ha5, haa5, hm5, ht5, hf5⟩
        have HS5 := Lib.hid (HS4.out.moved hm5.1 hm5.2)
        have HT5 := Lib.hid ht5
        have HF5 := Lib.hid hf5
        clear hm5 ht5 hf5 HS4
        go_wp2_with fail
        refine (spSign_u 58 58 rfl w5 gr s a5 o5 HS5.out.rdr ha5 hs).mono ?_
        rintro e w6 ⟨a6, o6, rfl, ha6, haa6, hm6, ht6, hf6⟩
        have HS6 := Lib.hid (HS5.out.moved hm6.1 hm6.2)
        have HT6 := Lib.hid ht6
        have HF6 := Lib.hid hf6
        clear hm6 ht6 hf6 HS5
        go_wp2_with fail
        refine (IH.out w6 gr s a6 o6 HS6.out.rdr ha6 hs (fun _ => by omega) (by omega)).mono ?_
        rintro e w8 ⟨p8, a8, o8, dg, i8, dp8, vp8, vt8, rfl, ha8, haa8, hm8, hp8, hb8, hdp8, ht8, hf8⟩
        obtain ⟨rs', ts', hst8, hor8⟩ : ∃ rs' ts', SvSt w gr p s (a8 : Nat) o8 d i (deps ts : Nat) vp vt vp vt ps rs rs' ts' w8 ∧ (o8 = true → rs' = rs ++ [p8] ∧ ∃ t, ts' = ts ++ [t] ∧ pv f (from_ s a6) = some (t, from_ s a8) ∧ dg = t.deg ∧ dp8 = t.dep) := by
          cases o8 with
          | false => exact ⟨rs, ts, HS6.out.moved hm8.1 hm8.2, fun h => by cases h⟩
          | true =>
            obtain ⟨-, -, t, h1, h2, h3, h4⟩ := ht8 rfl
            exact ⟨rs ++ [p8], ts ++ [t], HS6.out.part hm8.1 hm8.2 h2, fun _ => ⟨rfl, t, rfl, h1, h3, h4⟩⟩
        have HS8 := Lib.hid hst8
        have HO8 := Lib.hid hor8
        have HT8 := Lib.hid ht8
        have HF8 := Lib.hid hf8
        have HB8 := Lib.hid hb8
        have hk8 := hb8.cell
        have hn8 := HS8.out.node.cell
        have hr8 := HS8.out.rdr.cell
        have hg8 := HS8.out.rdr.free
        obtain ⟨hpp1, hpp2⟩ : p8 ≠ p ∧ p8 ≠ gr := ⟨by have := HS6.out.node.lt; omega, by have := HS6.out.rdr.lt; omega⟩
        have HV1 : Hid (∀ g, vp.ownBlock = some g → g ≠ p8) := Lib.hid fun g hg => by have := (HS6.out.own1.blk g hg).2; omega
        have HV2 : Hid (∀ g, vt.ownBlock = some g → g ≠ p8) := Lib.hid fun g hg => by have := (HS6.out.own2.lt g hg).2; omega
        clear hm8 hb8 ht8 hf8 hst8 hor8 HS6
        go_upto_region 15 with (fail)
        go_cut [] (fun W => W = w8.setCell ⟨gr, 2, none⟩ (.bool (o8 && decide (j < dg))))
        case first =>
          cases o8
          · go_wp2_with fail
            go_meet
            rfl
          · by_cases hj : j < dg
            · have e1 : decide (j < dg) = true := by simp [hj]
              go_wp2_with fail
              go_meet
              simp [hj]
            · have e1 : decide (j < dg) = false := by simp [hj]
              go_wp2_with fail
              go_meet
              simp [hj]
        case rest =>
        obtain rfl := hcut
        obtain ⟨o9, ho9⟩ : ∃ o9, o9 = (o8 && decide (j < dg)) := ⟨_, rfl⟩
        rw [← ho9]
        have HS9 : Hid (SvSt w gr p s (a8 : Nat) o9 d i (deps ts : Nat) vp vt vp vt ps rs rs' ts' (w8.setCell ⟨gr, 2, none⟩ (.bool o9))) := Lib.hid (HS8.out.moved (HS8.out.rdr.put 2 (.bool o9)) (grown_set1 _ _ _ _))
        have HB9 := Lib.hid (HB8.out.far (p := ⟨gr, 2, none⟩) hpp2 (.bool o9))
        have HO9 := Lib.hid ho9
        clear ho9 HS8 HB8 hk8 hn8 hr8 hg8
        generalize w8.setCell ⟨gr, 2, none⟩ (.bool o9) = w9 at *
        have hn9 := HS9.out.node.cell
        go_upto_region 17 with (refine wpList_append_intsL (S := fun _ => True) _ rfl (.tmp 100) (.tmp 102) rfl w.heap.size vp (zs ps) rfl (NodeSt.alloc_ HS9.out).own1 _ [(j : Int)] rfl (IntsR.oneAt (Blk.newAt rfl)) (by simp [zs]; omega) (NodeSt.alloc_ HS9.out).grw.size ?_; intro A1 c1 w10 ho hg hl; have HSA := Lib.hid ((NodeSt.alloc_ HS9.out).app1 ho hg hl); have HBA := Lib.hid (Blk.kept (HB9.out.alloc _) hg (fun e => HV1.out _ e.symm rfl)); clear ho hg hl; have kA := HSA.out.node.cell; have fA := HSA.out.node.free)
        obtain ⟨v1, hv1⟩ : ∃ v1, v1 = Value.slice A1 ((zs ps).length + 1) c1 := ⟨_, rfl⟩
        have HSV : Hid (SvSt w gr p s (a8 : Nat) o9 d i (deps ts : Nat) vp vt v1 vt (ps ++ [j]) rs rs' ts' w10) := Lib.hid (by rw [hv1]; exact HSA.out)
        rw [← hv1]
        clear HSA hv1
        have HSA2 := Lib.hid (HSV.out.store (HSV.out.node.put 2 v1) (grown_set1 w10 p 2 v1))
        have HBA2 := Lib.hid (HBA.out.far (p := ⟨p, 2, none⟩) hpp1 v1)
        clear HSV HBA kA fA hn9 HS9 HB9
        generalize w10.setCell ⟨p, 2, none⟩ v1 = wb at *
        have hnb := HSA2.out.node.cell
        go_upto_region 18 with (refine wpList_append_G ptrTS (S := fun _ => True) _ rfl (.tmp 110) (.tmp 112) rfl w.heap.size vt rs rfl (NodeSt.alloc_ HSA2.out).own2 _ [p8] rfl (SlR.oneP (Blk.newAt rfl)) (by simp; omega) (NodeSt.alloc_ HSA2.out).grw.size ?_; intro A2 c2 w11 ho hg hl; have HSB := Lib.hid ((NodeSt.alloc_ HSA2.out).app2 ho hg hl); have HBB := Lib.hid (Blk.kept (HBA2.out.alloc _) hg (fun e => HV2.out _ e.symm rfl)); clear ho hg hl; have kA := HSB.out.node.cell; have fA := HSB.out.node.free)
        obtain ⟨v2, hv2⟩ : ∃ v2, v2 = Value.slice A2 (k + 1) c2 := ⟨_, rfl⟩
        have HSW : Hid (SvSt w gr p s (a8 : Nat) o9 d i (deps ts : Nat) v1 vt v1 v2 (ps ++ [j]) (rs ++ [p8]) rs' ts' w11) := Lib.hid (by rw [hv2, ← hql]; exact HSB.out)
        rw [← hv2]
        clear HSB hv2
        have HSB2 := Lib.hid (HSW.out.store (HSW.out.node.put 3 v2) (grown_set1 w11 p 3 v2))
        have HBB2 := Lib.hid (HBB.out.far (p := ⟨p, 3, none⟩) hpp1 v2)
        clear HSW HBB kA fA hnb HSA2 HBA2
        generalize w11.setCell ⟨p, 3, none⟩ v2 = wc2 at *
        have hn2 := HSB2.out.node.cell
        have hf2 := HSB2.out.node.free
        have hb2 := HBB2.out.cell
        have hw1 : IntKind.i64.wrap ((dp8 : Int) + 1) = (dp8 : Int) + 1 := IntWalk.i64_in _ (by omega)
        have HMX : Hid (max ((deps ts : Nat) : Int) ((dp8 : Int) + 1) = ((max (deps ts) (dp8 + 1) : Nat) : Int)) := Lib.hid (by omega)
        have HREL : Hid (∀ W, SvSt w gr p s (a8 : Nat) o9 d i ((max (deps ts) (dp8 + 1) : Nat) : Int) v1 v2 v1 v2 (ps ++ [j]) (rs ++ [p8]) rs' ts' W → SvRel f w gr p s a a3 d i (.int .i64 ((k : Int) + 1)) W) := Lib.hid fun W hW => by
          refine ⟨k + 1, a8, o9, max (deps ts) (dp8 + 1), v1, v2, ps ++ [j], rs ++ [p8], rs', ts', by go_num, by omega, ha8, by omega, by omega, by simp [hpl], by simp [hql], hW, fun ho => ?_, fun ho => ?_⟩
          · have h9 := HO9.out
            rw [ho] at h9
            simp only [Bool.true_eq, Bool.and_eq_true, decide_eq_true_eq] at h9
            obtain ⟨h8, hj⟩ := h9
            obtain ⟨e1, t, e2, e3, e4, e5⟩ := HO8.out h8
            obtain ⟨h6, -, -⟩ := HT8.out h8
            obtain ⟨h5, -, k6⟩ := HT6.out h6
            obtain ⟨h4, -, k5⟩ := HT5.out h5
            have k4 := HT4.out h4
            subst e1 e2
            refine ⟨rfl, by simp [htl], by rw [deps_snoc, e5], ?_⟩
            rw [HX1.out, pre_step (pv f) ps ts k4 k5 k6 e3 (by omega), if_neg (by omega), show d - (k + 1) = m by have := HM.out; omega]
          · exact (by
              rw [HXX.out, sv_none (p := pv f) (t4 := HT4.out) (f4 := HF4.out) (t5 := fun h => ⟨(HT5.out h).1, (HT5.out h).2.2⟩) (f5 := HF5.out) (t6 := fun h => ⟨(HT6.out h).1, (HT6.out h).2.2⟩) (f6 := HF6.out)
                (t8 := fun h => ⟨(HT8.out h).1, by obtain ⟨-, -, t, h1, -, h3, -⟩ := HT8.out h; exact ⟨t, h1, h3⟩⟩) (f8 := HF8.out) (h9 := HO9.out) (hf := ho)]
              rfl)
        go_region_with ((go_at_call 139; refine (l1Most_any _ _ _).mono ?_; rintro e w14 ⟨rfl, rfl⟩; rw [HMX.out]))
        all_goals
          go_wp2_with fail
          go_roundw
          case rel => exact HREL.out _ (NodeSt.drew_ (HSB2.out.put4 _))
          case measure => simp [intOf]; omega
      · cases o with
        | false =>
          have HN : Hid (pv (f + 1) (from_ s a) = none) := Lib.hid (HF.out rfl)
          have C9 := Lib.hid (spSign_u 41 41 rfl wr gr s a1 false HS.out.rdr hal hs)
          clear HF HT
          by_cases hkd : k < d
          all_goals
            go_wp2_with (go_at_call 169; refine C9.out.mono ?_; rintro e w9 ⟨a9, o9, rfl, ha9, haa9, hm9, ht9, hf9⟩; have HS9 := Lib.hid (HS.out.moved hm9.1 hm9.2); have HT9 := Lib.hid ht9; clear hm9 ht9 hf9)
            go_ret
            cases o9 with
            | true => exact absurd (HT9.out rfl).1 (by simp)
            | false => exact SvPost.bad HS9.out ha9 (by omega) hdp (.inr HN.out)
        | true =>
          obtain rfl : k = d := by
            have : ¬ k < d := fun h => hlt ⟨h, rfl⟩
            omega
          obtain ⟨hrq, htl, hdd, hx⟩ := HT.out rfl
          subst hrq hdd
          have HXX : Hid (pv (f + 1) (from_ s a) = fin k i (some (ps, ts, from_ s a1))) := Lib.hid (by rw [HX.out, hx, Nat.sub_self, pre_zero])
          have C9 := Lib.hid (spSign_u 41 41 rfl wr gr s a1 true HS.out.rdr hal hs)
          clear HF HT hx hlt
          go_wp2_with (go_at_call 169; refine C9.out.mono ?_; rintro e w9 ⟨a9, o9, rfl, ha9, haa9, hm9, ht9, hf9⟩; have HS9 := Lib.hid (HS.out.moved hm9.1 hm9.2); have HT9 := Lib.hid ht9; have HF9 := Lib.hid hf9; clear hm9 ht9 hf9)
          go_ret
          cases o9 with
          | true =>
            obtain ⟨-, hl9, h9⟩ := HT9.out rfl
            exact SvPost.ok HS9.out ha9 (by omega) hdp (by rw [HXX.out]; simp [fin, h9])
          | false =>
            rcases HF9.out rfl with h9 | h9
            · cases h9
            · exact SvPost.bad HS9.out ha9 (by omega) hdp (.inr (by rw [HXX.out]; simp [fin, h9]))
end Go.Proofs.YtljjbhihllnnaaaGreat

namespace Go.Proofs.YtljjbhihllnnaaaGreat
open Go.RowKit

theorem fitss_all {ts : List VT} {k : Nat} : fitss ts k = true ↔ ∀ j, j < ts.length → (ga ts j).fits k = true := by
  induction ts with
  | nil => simp [fitss]
  | cons t ts ih =>
    simp only [fitss, Bool.and_eq_true, ih]
    constructor
    · rintro ⟨h1, h2⟩ j hj
      cases j with
      | zero => simpa [ga] using h1
      | succ j => have := h2 j (by simpa using hj); simpa [ga] using this
    · intro h
      exact ⟨by have := h 0 (by simp); simpa [ga] using this, fun j hj => by have := h (j + 1) (by simpa using hj); simpa [ga] using this⟩
theorem fits_mk (d i : Nat) (ps : List Nat) (ts : List VT) (k : Nat) : (VT.mk d i ps ts).fits k = (d == 0 || ((ts.isEmpty == (k == 0)) && fitss ts (k - 1))) := by simp [VT.fits]
theorem fits_no {d i : Nat} {ps : List Nat} {ts : List VT} {k : Nat} (hd : d ≠ 0) {j : Nat} (hj : j < ts.length) (h : (ga ts j).fits (k - 1) = false) : (VT.mk d i ps ts).fits k = false := by
  rw [fits_mk]
  have : fitss ts (k - 1) = false := by
    rw [← Bool.not_eq_true, fitss_all]
    intro h2
    rw [h2 j hj] at h; cases h
  simp [hd, this]
theorem fits_yes {d i : Nat} {ps : List Nat} {ts : List VT} {k : Nat} (he : ts.isEmpty = (k == 0)) (h : ∀ j, j < ts.length → (ga ts j).fits (k - 1) = true) : (VT.mk d i ps ts).fits k = true := by
  rw [fits_mk, fitss_all.2 h, he]; simp

set_option maxRecDepth 100000 in
set_option maxHeartbeats 2000000 in
theorem spFits (n : Nat) : ∀ (t : VT) (w : World) (S : Nat → Prop) (p k : Nat), t.dep < n → TreeR w S t p → k ≤ 1000 →
    Calls Tryz.prog 126 #[.pointer (some ⟨p, 0, none⟩), .int .i64 (k : Nat)] w (RetQ w (.bool (t.fits k))) := by
  induction n with
  | zero => intro t w S p k h; omega
  | succ n ih =>
    intro t w S p k hn h hk
    obtain ⟨d, i, ps, ts⟩ := t
    simp only [TreeR] at h
    obtain ⟨hS, hl, vp, vt, qs, c0, c1, c2, c3, c4, hp, ht, hts⟩ := h
    rw [dep_mk] at hn
    have IH := Lib.hid ih
    have HT := Lib.hid hts
    have hq : qs.length = ts.length := hts.len
    obtain ⟨A, c, rfl, hnc, hm, hx⟩ := ht
    rw [hq] at hnc hx c3
    unfold maxLen at hm
    have HX := Lib.hid hx
    have HQ := Lib.hid hq
    have HN := Lib.hid hn
    clear ih hts hx hp hq hn
    by_cases hd : d = 0
    · have e1 : ((d : Int) == 0) = true := by simp [hd]
      have HE : Hid ((VT.mk d i ps ts).fits k = true) := Lib.hid (by rw [fits_mk]; simp [hd])
      clear hd
      go_enter Tryz.func126, Tryz.ntmps126
      go_wp2_with fail
      go_ret
      exact ⟨by rw [HE.out]; rfl, rfl⟩
    have e1 : ((d : Int) == 0) = false := by simp [hd]
    have HD := Lib.hid hd
    clear hd
    by_cases he : ts.length = 0 ∧ k ≠ 0 ∨ ts.length ≠ 0 ∧ k = 0
    · have HE : Hid ((VT.mk d i ps ts).fits k = false) := Lib.hid (by
        rw [fits_mk]
        rcases he with ⟨h1, h2⟩ | ⟨h1, h2⟩
        · have := List.eq_nil_of_length_eq_zero h1
          subst this; simp [HD.out, h2]
        · have : ts.isEmpty = false := by cases ts with | nil => simp at h1 | cons => rfl
          simp [HD.out, h2, this])
      rcases he with ⟨h1, h2⟩ | ⟨h1, h2⟩
      · have e2 : ((ts.length : Int) == 0) = true := by simp [h1]
        have e3 : ((k : Int) == 0) = false := by simp [h2]
        clear h1 h2
        go_enter Tryz.func126, Tryz.ntmps126
        go_wp2_with fail
        go_ret
        exact ⟨by rw [HE.out]; rfl, rfl⟩
      · have e2 : ((ts.length : Int) == 0) = false := by simp [h1]
        have e3 : ((k : Int) == 0) = true := by simp [h2]
        clear h1 h2
        go_enter Tryz.func126, Tryz.ntmps126
        go_wp2_with fail
        go_ret
        exact ⟨by rw [HE.out]; rfl, rfl⟩
    obtain ⟨bb, e2, e3⟩ : ∃ bb : Bool, ((ts.length : Int) == 0) = bb ∧ ((k : Int) == 0) = bb := by
      by_cases h1 : ts.length = 0
      · have h2 : k = 0 := by omega
        exact ⟨true, by simp [h1], by simp [h2]⟩
      · have h2 : k ≠ 0 := by omega
        exact ⟨false, by simp [h1], by simp [h2]⟩
    have HI : Hid (ts.isEmpty = (k == 0)) := Lib.hid (by
      cases ts with
      | nil => simp at he ⊢; exact he.symm ▸ rfl
      | cons => simp at he ⊢; exact he)
    have HK : Hid (0 < ts.length → 0 < k) := Lib.hid fun h => by omega
    clear he
    cases bb
    all_goals
    go_enter Tryz.func126, Tryz.ntmps126
    go_wp2_with fail
    go_loop [26] (fun x => ∃ j : Nat, j ≤ ts.length ∧ x = .int .i64 j ∧ ∀ r, r < j → (ga ts r).fits (k - 1) = true) (fun x => ts.length - (intOf x).toNat)
    case atStart => exact ⟨0, Nat.zero_le _, rfl, fun r hr => absurd hr (Nat.not_lt_zero _)⟩
    case round =>
      obtain ⟨j, hj, rfl, hall⟩ := hrel
      have HA := Lib.hid hall
      clear hall
      by_cases hlt : j < ts.length
      · obtain ⟨b, off, rfl, -, hlb, hc⟩ := HX.out (by have := HQ.out; omega)
        have cj : w.cell? ⟨b, off + j, none⟩ = some (.pointer (some ⟨ga qs j, 0, none⟩)) := by
          have := hc j (by have := HQ.out; omega) 0 (by decide)
          simpa [encP] using this
        have i1 : (0 : Int) ≤ (j : Int) := by omega
        have i2 : (j : Int) < (ts.length : Int) := by omega
        have hk0 : 0 < k := HK.out (by omega)
        have ek : (k : Int) - 1 = ((k - 1 : Nat) : Int) := by omega
        have HC := Lib.hid (IH.out (ga ts j) w S (ga qs j) (k - 1) (by have := HN.out; have := deps_ge (ga_mem hlt); omega) (HT.out.at_ hlt) (by omega))
        have HEK := Lib.hid ek
        clear hc ek
        cases hf : (ga ts j).fits (k - 1) with
        | false =>
          have HE : Hid ((VT.mk d i ps ts).fits k = false) := Lib.hid (fits_no HD.out hlt hf)
          rw [hf] at HC
          clear hf
          go_wp2_with (go_at_call 126; rw [HEK.out]; refine HC.out.mono ?_; rintro e w1 ⟨rfl, rfl⟩)
          go_ret
          exact ⟨by rw [HE.out]; rfl, rfl⟩
        | true =>
          rw [hf] at HC
          have HF := Lib.hid hf
          clear hf
          go_wp2_with (go_at_call 126; rw [HEK.out]; refine HC.out.mono ?_; rintro e w1 ⟨rfl, rfl⟩)
          go_round
          case rel =>
            refine ⟨j + 1, by omega, by go_num, fun r hr => ?_⟩
            by_cases h3 : r = j
            · subst h3; exact HF.out
            · exact HA.out r (by omega)
          case measure => simp [intOf]; omega
      · obtain rfl : j = ts.length := by omega
        have HE : Hid ((VT.mk d i ps ts).fits k = true) := Lib.hid (fits_yes HI.out HA.out)
        go_wp2_with fail
        go_ret
        exact ⟨by rw [HE.out]; rfl, rfl⟩
end Go.Proofs.YtljjbhihllnnaaaGreat
