/- Parts of the proof, joined: Vi3, Vi4, Vi5, Ta1. -/
import Derived.Test.YtjoimponfeofkaaGreatCVi2
import Derived.Test.YtjoimponfeofkaaGreatCReg
import Derived.Test.YtjoimponfeofkaaGreatCPh
import Derived.Deep.RegionHeld3
import Derived.Deep.DeepCutAuto
import Derived.WalkLawsBesides
namespace Go.Proofs.YtjoimponfeofkaaGreat
open Go.RowKit

def HoldsAt (p : Nat) (vp vt : Value) (W : World) : Prop := W.cell? ⟨p, 2, none⟩ = some vp ∧ W.cell? ⟨p, 3, none⟩ = some vt
theorem HoldsAt.of {TR TN TP : TypeId} {w wr : World} {gr p : Nat} {rd : Array Value} {d i dp : Int} {vp0 vt0 vp vt : Value} {ps qs rs : List Nat} {ts : List VT} (h : NodeSt TR TN TP w gr p rd d i dp vp0 vt0 vp vt ps qs rs ts wr) : HoldsAt p vp0 vt0 wr :=
  ⟨by rw [h.node.cell]; rfl, by rw [h.node.cell]; rfl⟩

theorem Blk.kept {W w1 : World} {g : Nat} {t : TypeId} {cs : Array Value} {row : Option Nat} (h : Blk W g t cs) (hg : W.grownBy w1 row) (hne : some g ≠ row) : Blk w1 g t cs := (hg.block g h.lt hne).trans h

noncomputable def viR20 : Code := (Tryz.f97.body.bind (regOf 20)).getD .skip
set_option maxRecDepth 100000 in
set_option maxHeartbeats 4000000 in
theorem viReg20 {w : World} {gr p : Nat} {s : ByteArray} {a d i : Nat} {vp vt : Value} {ps qs : List Nat} {ts : List VT} {t : VT} {j q : Nat} {w9 : World} (hs : ViSt w gr p s (a : Nat) d i 0 vp vt vp vt ps qs (qs ++ [q]) (ts ++ [t]) w9) (hpl : ps.length ≤ 100) (hql : qs.length ≤ 100) (Q : Exit → Act → World → Prop)
    (u0 u1 u2 u4 u7 u8 u9 u10 u11 u12 u13 u14 u15 u16 u17 u18 u19 u20 u21 u22 u23 u24 u25 u26 u27 u28 u29 u30 u31 u32 u33 u34 u35 u36 u37 u38 u39 u40 u41 u42 u43 u44 u45 u46 u47 u48 u49 u50 u51 u52 u53 u54 u55 u56 u57 u58 u59 u60 u61 u62 u63 u64 u65 u66 u67 u68 u69 u70 u71 u72 u73 u74 u75 u76 u77 u78 u79 u80 u81 u82 u83 u84 u85 u86 u87 u88 u89 u90 u91 u92 u93 u94 u95 u96 u97 u98 u99 u100 u101 u102 u103 u104 u105 u106 u107 u108 u109 u110 u111 u112 u113 u114 u115 u116 u117 u118 u119 u120 u121 u122 u123 u124 u125 u126 u127 u128 u129 u130 u131 u132 u133 u134 u135 u136 u137 u138 u139 u140 u141 : Value)
    (h : ∀ vp' vt' W, ViSt w gr p s (a : Nat) d i 0 vp' vt' vp' vt' (ps ++ [j]) (qs ++ [q]) (qs ++ [q]) (ts ++ [t]) W → ∀ v97 v98 v99 v100 v101 v102 v103 v104 v105 v106 v107 v108 v109 v110 v111 v112 v113 v114 v115 v116, Q .normal ⟨#[u0, u1, u2, .pointer (some ⟨p, 0, none⟩), u4, .int .i64 (j : Nat), .pointer (some ⟨q, 0, none⟩), u7, u8, u9, u10, u11, u12, u13, u14, u15, u16, u17, u18, u19, u20, u21, u22, u23, u24, u25, u26, u27, u28, u29, u30, u31, u32, u33, u34, u35, u36, u37, u38, u39, u40, u41, u42, u43, u44, u45, u46, u47, u48, u49, u50, u51, u52, u53, u54, u55, u56, u57, u58, u59, u60, u61, u62, u63, u64, u65, u66, u67, u68, u69, u70, u71, u72, u73, u74, u75, u76, u77, u78, u79, u80, u81, u82, u83, u84, u85, u86, u87, u88, u89, u90, u91, u92, u93, u94, u95, u96, v97, v98, v99, v100, v101, v102, v103, v104, v105, v106, v107, v108, v109, v110, v111, v112, v113, v114, v115, v116, u117, u118, u119, u120, u121, u122, u123, u124, u125, u126, u127, u128, u129, u130, u131, u132, u133, u134, u135, u136, u137, u138, u139, u140, u141], []⟩ W) :
    Code.wp Tryz.prog viR20 Q ⟨#[u0, u1, u2, .pointer (some ⟨p, 0, none⟩), u4, .int .i64 (j : Nat), .pointer (some ⟨q, 0, none⟩), u7, u8, u9, u10, u11, u12, u13, u14, u15, u16, u17, u18, u19, u20, u21, u22, u23, u24, u25, u26, u27, u28, u29, u30, u31, u32, u33, u34, u35, u36, u37, u38, u39, u40, u41, u42, u43, u44, u45, u46, u47, u48, u49, u50, u51, u52, u53, u54, u55, u56, u57, u58, u59, u60, u61, u62, u63, u64, u65, u66, u67, u68, u69, u70, u71, u72, u73, u74, u75, u76, u77, u78, u79, u80, u81, u82, u83, u84, u85, u86, u87, u88, u89, u90, u91, u92, u93, u94, u95, u96, u97, u98, u99, u100, u101, u102, u103, u104, u105, u106, u107, u108, u109, u110, u111, u112, u113, u114, u115, u116, u117, u118, u119, u120, u121, u122, u123, u124, u125, u126, u127, u128, u129, u130, u131, u132, u133, u134, u135, u136, u137, u138, u139, u140, u141], []⟩ w9 := by
  have HS9 := Lib.hid hs
  have HH := Lib.hid h
  clear hs h
  conv => arg 2; whnf
  refine wp_region_noPanic ?_
  refine wp_region_any (by kernel_rfl) ?_
  simp only [List.size_toArray, List.length_cons, List.length_nil, Array.replicate, List.replicate]
  refine wpAny_take (i := 0) (oi := _) (v := ?_) rfl (by kernel_rfl) (by kernel_rfl) (by kernel_rfl) (fun _ _ _ h => h) (Or.inl ⟨by rfl, ?_⟩) ?_
  case refine_2 => intro w0; go_simp; with_reducible rfl
  try simp only [Act.put, List.setIfInBounds_toArray, List.set_cons_zero, List.set_cons_succ]
  refine wpAny_take (i := 1) (oi := _) (v := ?_) rfl (by kernel_rfl) (by kernel_rfl) (by kernel_rfl) (fun _ _ _ h => h) (Or.inl ⟨by rfl, ?_⟩) ?_
  case refine_2 => intro w0; go_simp; with_reducible rfl
  try simp only [Act.put, List.setIfInBounds_toArray, List.set_cons_zero, List.set_cons_succ]
  refine wpAny_take (i := 2) (oi := _) (v := ?_) rfl (by kernel_rfl) (by kernel_rfl) (by kernel_rfl) (fun _ _ _ h => h) (Or.inl ⟨by rfl, ?_⟩) ?_
  case refine_2 => intro w0; go_simp; with_reducible rfl
  try simp only [Act.put, List.setIfInBounds_toArray, List.set_cons_zero, List.set_cons_succ]
  refine wpAny_take (i := 3) (oi := _) (v := ?_) rfl (by kernel_rfl) (by kernel_rfl) (by kernel_rfl) (fun _ _ _ h => h) (Or.inl ⟨by rfl, ?_⟩) ?_
  case refine_2 => intro w0; go_simp; with_reducible rfl
  try simp only [Act.put, List.setIfInBounds_toArray, List.set_cons_zero, List.set_cons_succ]
  refine wpAny_take (i := 4) (oi := _) (v := ?_) rfl (by kernel_rfl) (by kernel_rfl) (by kernel_rfl) (fun _ _ _ h => h) (Or.inl ⟨by rfl, ?_⟩) ?_
  case refine_2 => intro w0; go_simp; with_reducible rfl
  try simp only [Act.put, List.setIfInBounds_toArray, List.set_cons_zero, List.set_cons_succ]
  refine wpAny_take (i := 6) (oi := _) (v := ?_) rfl (by kernel_rfl) (by kernel_rfl) (by kernel_rfl) (fun _ _ _ h => h) (Or.inl ⟨by rfl, ?_⟩) ?_
  case refine_2 => intro w0; go_simp; with_reducible rfl
  try simp only [Act.put, List.setIfInBounds_toArray, List.set_cons_zero, List.set_cons_succ]
  refine wpAny_take (i := 9) (oi := _) (v := ?_) rfl (by kernel_rfl) (by kernel_rfl) (by kernel_rfl) (fun _ _ _ h => h) (Or.inl ⟨by rfl, ?_⟩) ?_
  case refine_2 => intro w0; go_simp; with_reducible rfl
  try simp only [Act.put, List.setIfInBounds_toArray, List.set_cons_zero, List.set_cons_succ]
  refine wpAny_take (i := 10) (oi := _) (v := ?_) rfl (by kernel_rfl) (by kernel_rfl) (by kernel_rfl) (fun _ _ _ h => h) (Or.inl ⟨by rfl, ?_⟩) ?_
  case refine_2 => intro w0; go_simp; with_reducible rfl
  try simp only [Act.put, List.setIfInBounds_toArray, List.set_cons_zero, List.set_cons_succ]
  refine wpAny_take (i := 11) (oi := _) (v := ?_) rfl (by kernel_rfl) (by kernel_rfl) (by kernel_rfl) (fun _ _ _ h => h) (Or.inl ⟨by rfl, ?_⟩) ?_
  case refine_2 => intro w0; go_simp; with_reducible rfl
  try simp only [Act.put, List.setIfInBounds_toArray, List.set_cons_zero, List.set_cons_succ]
  refine wpAny_take (i := 13) (oi := _) (v := ?_) rfl (by kernel_rfl) (by kernel_rfl) (by kernel_rfl) (fun _ _ _ h => h) (Or.inl ⟨by rfl, ?_⟩) ?_
  case refine_2 => intro w0; go_simp; with_reducible rfl
  try simp only [Act.put, List.setIfInBounds_toArray, List.set_cons_zero, List.set_cons_succ]
  have hS9 : HoldsAt p vp vt w9.drew := HoldsAt.of (NodeSt.drew_ HS9.out)
  refine wpAny_of_P (S := fun W => W.cell? ⟨p, 2, none⟩ = some vp ∧ W.cell? ⟨p, 3, none⟩ = some vt) (n1 := 16) _ _ _ _ ?_
  refine wpAnyP_take (i := 5) (oi := _) (v := ?_) rfl (by kernel_rfl) (by kernel_rfl) (by kernel_rfl) (by omega) (by kernel_rfl) (fun _ _ _ h => h) (Or.inl ⟨by rfl, ?_⟩) hS9 ?_
  case refine_2 => intro w0 hS0; obtain ⟨h0, h1⟩ := hS0; go_simp; with_reducible rfl
  try simp only [Act.put, List.setIfInBounds_toArray, List.set_cons_zero, List.set_cons_succ]
  refine wpAnyP_take (i := 12) (oi := _) (v := ?_) rfl (by kernel_rfl) (by kernel_rfl) (by kernel_rfl) (by omega) (by kernel_rfl) (fun _ _ _ h => h) (Or.inl ⟨by rfl, ?_⟩) hS9 ?_
  case refine_2 => intro w0 hS0; obtain ⟨h0, h1⟩ := hS0; go_simp; with_reducible rfl
  try simp only [Act.put, List.setIfInBounds_toArray, List.set_cons_zero, List.set_cons_succ]
  refine wpAnyP_ready (rs := [7, 14]) (by kernel_rfl) (by simp) (by kernel_rfl) (AllReadyP.cons (o := _) rfl (fun K hK => ?_) (AllReadyP.cons (o := _) rfl (fun K hK => ?_) AllReadyP.nil))
  ·
    go_simp
    refine hK.out _ _ (HoldsAt.of (by repeat first | exact HS9.out | apply NodeSt.alloc_ | apply NodeSt.drew_)) (fun _ => ?_)
    clear hK K
    try simp only [Act.put, List.setIfInBounds_toArray, List.set_cons_zero, List.set_cons_succ]
    refine wpAnyP_ready (rs := [8, 14]) (by kernel_rfl) (by simp) (by kernel_rfl) (AllReadyP.cons (o := _) rfl (fun K hK => ?_) (AllReadyP.cons (o := _) rfl (fun K hK => ?_) AllReadyP.nil))
    ·
      refine step_append_intsL (S := fun _ => True) _ rfl (.tmp 102) (.tmp 104) rfl w.heap.size vp (zs ps) (by simp [go_sem]) (show ViSt w gr p s (a : Nat) d i 0 vp vt vp vt ps qs (qs ++ [q]) (ts ++ [t]) _ from by repeat first | exact HS9.out | apply NodeSt.alloc_ | apply NodeSt.drew_).own1 _ [(j : Int)] rfl (IntsR.oneAt (by repeat first | exact Blk.newAt (by simp) | apply Blk.drew_ | apply Blk.alloc)) (by simp [zs]; omega) (show ViSt w gr p s (a : Nat) d i 0 vp vt vp vt ps qs (qs ++ [q]) (ts ++ [t]) _ from by repeat first | exact HS9.out | apply NodeSt.alloc_ | apply NodeSt.drew_).grw.size ?_
      intro A1 c1 w1 ho hg hl
      have HSA := Lib.hid ((show ViSt w gr p s (a : Nat) d i 0 vp vt vp vt ps qs (qs ++ [q]) (ts ++ [t]) _ from by repeat first | exact HS9.out | apply NodeSt.alloc_ | apply NodeSt.drew_).app1 ho hg hl)
      refine hK.out _ _ (HoldsAt.of HSA.out) (fun _ => ?_)
      clear hK K ho hg hl
      try simp only [Act.put, List.setIfInBounds_toArray, List.set_cons_zero, List.set_cons_succ]
      refine wpAnyP_ready (rs := [14]) (by kernel_rfl) (by simp) (by kernel_rfl) (AllReadyP.cons (o := _) rfl (fun K hK => ?_) AllReadyP.nil)
      go_simp
      refine hK.out _ _ (HoldsAt.of (by repeat first | exact HSA.out | apply NodeSt.alloc_ | apply NodeSt.drew_)) (fun _ => ?_)
      clear hK K
      try simp only [Act.put, List.setIfInBounds_toArray, List.set_cons_zero, List.set_cons_succ]
      refine wpAnyP_ready (rs := [15]) (by kernel_rfl) (by simp) (by kernel_rfl) (AllReadyP.cons (o := _) rfl (fun K hK => ?_) AllReadyP.nil)
      refine step_append_G ptrT (S := fun _ => True) _ rfl (.tmp 109) (.tmp 111) rfl w.heap.size vt qs (by simp [go_sem]) (show ViSt w gr p s (a : Nat) d i 0 vp vt _ vt (ps ++ [j]) qs (qs ++ [q]) (ts ++ [t]) _ from by repeat first | exact HSA.out | apply NodeSt.alloc_ | apply NodeSt.drew_).own2 _ [q] rfl (SlR.oneP (by repeat first | exact Blk.newAt (by simp) | apply Blk.drew_ | apply Blk.alloc)) (by simp; omega) (show ViSt w gr p s (a : Nat) d i 0 vp vt _ vt (ps ++ [j]) qs (qs ++ [q]) (ts ++ [t]) _ from by repeat first | exact HSA.out | apply NodeSt.alloc_ | apply NodeSt.drew_).grw.size ?_
      intro A2 c2 w2 ho hg hl
      have HSB := Lib.hid ((show ViSt w gr p s (a : Nat) d i 0 vp vt _ vt (ps ++ [j]) qs (qs ++ [q]) (ts ++ [t]) _ from by repeat first | exact HSA.out | apply NodeSt.alloc_ | apply NodeSt.drew_).app2 ho hg hl)
      refine hK.out _ _ (HoldsAt.of HSB.out) (fun _ => ?_)
      clear hK K ho hg hl
      try simp only [Act.put, List.setIfInBounds_toArray, List.set_cons_zero, List.set_cons_succ]
      refine wpAnyP_go (by kernel_rfl) ?_
      refine wpAny_take (i := 16) (oi := _) (v := ?_) rfl (by kernel_rfl) (by kernel_rfl) (by kernel_rfl) (fun _ _ _ h => h) (Or.inl ⟨by rfl, ?_⟩) ?_
      case refine_2 => intro w0; go_simp; with_reducible rfl
      try simp only [Act.put, List.setIfInBounds_toArray, List.set_cons_zero, List.set_cons_succ]
      refine wpAny_take (i := 17) (oi := _) (v := ?_) rfl (by kernel_rfl) (by kernel_rfl) (by kernel_rfl) (fun _ _ _ h => h) (Or.inl ⟨by rfl, ?_⟩) ?_
      case refine_2 => intro w0; go_simp; with_reducible rfl
      try simp only [Act.put, List.setIfInBounds_toArray, List.set_cons_zero, List.set_cons_succ]
      have k2 := HSB.out.node.cell
      have f2 := HSB.out.node.free
      refine wpAny_of_P (S := fun _ => True) (n1 := 22) _ _ _ _ ?_
      refine wpAnyP_ready (rs := [18]) (by kernel_rfl) (by simp) (by kernel_rfl) (AllReadyP.cons (o := _) rfl (fun K hK => ?_) AllReadyP.nil)
      go_simp
      refine hK.out _ _ trivial (fun _ => ?_)
      clear hK K
      try simp only [Act.put, List.setIfInBounds_toArray, List.set_cons_zero, List.set_cons_succ]
      refine wpAnyP_take (i := 19) (oi := _) (v := ?_) rfl (by kernel_rfl) (by kernel_rfl) (by kernel_rfl) (by omega) (by kernel_rfl) (fun _ _ _ h => h) (Or.inl ⟨by rfl, ?_⟩) trivial ?_
      case refine_2 => intro w0 _; go_simp; with_reducible rfl
      try simp only [Act.put, List.setIfInBounds_toArray, List.set_cons_zero, List.set_cons_succ]
      refine wpAnyP_take (i := 20) (oi := _) (v := ?_) rfl (by kernel_rfl) (by kernel_rfl) (by kernel_rfl) (by omega) (by kernel_rfl) (fun _ _ _ h => h) (Or.inl ⟨by rfl, ?_⟩) trivial ?_
      case refine_2 => intro w0 _; go_simp; with_reducible rfl
      try simp only [Act.put, List.setIfInBounds_toArray, List.set_cons_zero, List.set_cons_succ]
      refine wpAnyP_ready (rs := [21]) (by kernel_rfl) (by simp) (by kernel_rfl) (AllReadyP.cons (o := _) rfl (fun K hK => ?_) AllReadyP.nil)
      go_simp
      refine hK.out _ _ trivial (fun _ => ?_)
      clear hK K
      try simp only [Act.put, List.setIfInBounds_toArray, List.set_cons_zero, List.set_cons_succ]
      refine wpAnyP_go (by kernel_rfl) (wpAny_done (by kernel_rfl) ?_ _)
      exact NoPanic.normal (HH.out _ _ _ HSB.out.put23 _ _ _ _ _ _ _ _ _ _ _ _ _ _ _ _ _ _ _ _)
    ·
      go_simp
      refine hK.out _ _ (HoldsAt.of (by repeat first | exact HS9.out | apply NodeSt.alloc_ | apply NodeSt.drew_)) (fun _ => ?_)
      clear hK K
      try simp only [Act.put, List.setIfInBounds_toArray, List.set_cons_zero, List.set_cons_succ]
      refine wpAnyP_ready (rs := [8]) (by kernel_rfl) (by simp) (by kernel_rfl) (AllReadyP.cons (o := _) rfl (fun K hK => ?_) AllReadyP.nil)
      refine step_append_intsL (S := fun _ => True) _ rfl (.tmp 102) (.tmp 104) rfl w.heap.size vp (zs ps) (by simp [go_sem]) (show ViSt w gr p s (a : Nat) d i 0 vp vt vp vt ps qs (qs ++ [q]) (ts ++ [t]) _ from by repeat first | exact HS9.out | apply NodeSt.alloc_ | apply NodeSt.drew_).own1 _ [(j : Int)] rfl (IntsR.oneAt (by repeat first | exact Blk.newAt (by simp) | apply Blk.drew_ | apply Blk.alloc)) (by simp [zs]; omega) (show ViSt w gr p s (a : Nat) d i 0 vp vt vp vt ps qs (qs ++ [q]) (ts ++ [t]) _ from by repeat first | exact HS9.out | apply NodeSt.alloc_ | apply NodeSt.drew_).grw.size ?_
      intro A1 c1 w1 ho hg hl
      have HSA := Lib.hid ((show ViSt w gr p s (a : Nat) d i 0 vp vt vp vt ps qs (qs ++ [q]) (ts ++ [t]) _ from by repeat first | exact HS9.out | apply NodeSt.alloc_ | apply NodeSt.drew_).app1 ho hg hl)
      have HK2 := Lib.hid (Blk.kept (W := ((w9.alloc (.cells #[.int .i64 (j : Nat)] 3)).alloc (.cells #[.pointer (some ⟨q, 0, none⟩)] 91)).drew) (g := w9.heap.size + 1) (t := 91) (cs := #[.pointer (some ⟨q, 0, none⟩)]) (by repeat first | exact Blk.newAt (by simp) | apply Blk.drew_ | apply Blk.alloc) hg (fun e => by have := (HS9.out.own1.blk _ e.symm).2; omega))
      refine hK.out _ _ (HoldsAt.of HSA.out) (fun _ => ?_)
      clear hK K ho hg hl
      try simp only [Act.put, List.setIfInBounds_toArray, List.set_cons_zero, List.set_cons_succ]
      refine wpAnyP_ready (rs := [15]) (by kernel_rfl) (by simp) (by kernel_rfl) (AllReadyP.cons (o := _) rfl (fun K hK => ?_) AllReadyP.nil)
      refine step_append_G ptrT (S := fun _ => True) _ rfl (.tmp 109) (.tmp 111) rfl w.heap.size vt qs (by simp [go_sem]) (show ViSt w gr p s (a : Nat) d i 0 vp vt _ vt (ps ++ [j]) qs (qs ++ [q]) (ts ++ [t]) _ from by repeat first | exact HSA.out | apply NodeSt.alloc_ | apply NodeSt.drew_).own2 _ [q] rfl (SlR.oneP HK2.out) (by simp; omega) (show ViSt w gr p s (a : Nat) d i 0 vp vt _ vt (ps ++ [j]) qs (qs ++ [q]) (ts ++ [t]) _ from by repeat first | exact HSA.out | apply NodeSt.alloc_ | apply NodeSt.drew_).grw.size ?_
      intro A2 c2 w2 ho hg hl
      have HSB := Lib.hid ((show ViSt w gr p s (a : Nat) d i 0 vp vt _ vt (ps ++ [j]) qs (qs ++ [q]) (ts ++ [t]) _ from by repeat first | exact HSA.out | apply NodeSt.alloc_ | apply NodeSt.drew_).app2 ho hg hl)
      refine hK.out _ _ (HoldsAt.of HSB.out) (fun _ => ?_)
      clear hK K ho hg hl
      try simp only [Act.put, List.setIfInBounds_toArray, List.set_cons_zero, List.set_cons_succ]
      refine wpAnyP_go (by kernel_rfl) ?_
      refine wpAny_take (i := 16) (oi := _) (v := ?_) rfl (by kernel_rfl) (by kernel_rfl) (by kernel_rfl) (fun _ _ _ h => h) (Or.inl ⟨by rfl, ?_⟩) ?_
      case refine_2 => intro w0; go_simp; with_reducible rfl
      try simp only [Act.put, List.setIfInBounds_toArray, List.set_cons_zero, List.set_cons_succ]
      refine wpAny_take (i := 17) (oi := _) (v := ?_) rfl (by kernel_rfl) (by kernel_rfl) (by kernel_rfl) (fun _ _ _ h => h) (Or.inl ⟨by rfl, ?_⟩) ?_
      case refine_2 => intro w0; go_simp; with_reducible rfl
      try simp only [Act.put, List.setIfInBounds_toArray, List.set_cons_zero, List.set_cons_succ]
      have k2 := HSB.out.node.cell
      have f2 := HSB.out.node.free
      refine wpAny_of_P (S := fun _ => True) (n1 := 22) _ _ _ _ ?_
      refine wpAnyP_ready (rs := [18]) (by kernel_rfl) (by simp) (by kernel_rfl) (AllReadyP.cons (o := _) rfl (fun K hK => ?_) AllReadyP.nil)
      go_simp
      refine hK.out _ _ trivial (fun _ => ?_)
      clear hK K
      try simp only [Act.put, List.setIfInBounds_toArray, List.set_cons_zero, List.set_cons_succ]
      refine wpAnyP_take (i := 19) (oi := _) (v := ?_) rfl (by kernel_rfl) (by kernel_rfl) (by kernel_rfl) (by omega) (by kernel_rfl) (fun _ _ _ h => h) (Or.inl ⟨by rfl, ?_⟩) trivial ?_
      case refine_2 => intro w0 _; go_simp; with_reducible rfl
      try simp only [Act.put, List.setIfInBounds_toArray, List.set_cons_zero, List.set_cons_succ]
      refine wpAnyP_take (i := 20) (oi := _) (v := ?_) rfl (by kernel_rfl) (by kernel_rfl) (by kernel_rfl) (by omega) (by kernel_rfl) (fun _ _ _ h => h) (Or.inl ⟨by rfl, ?_⟩) trivial ?_
      case refine_2 => intro w0 _; go_simp; with_reducible rfl
      try simp only [Act.put, List.setIfInBounds_toArray, List.set_cons_zero, List.set_cons_succ]
      refine wpAnyP_ready (rs := [21]) (by kernel_rfl) (by simp) (by kernel_rfl) (AllReadyP.cons (o := _) rfl (fun K hK => ?_) AllReadyP.nil)
      go_simp
      refine hK.out _ _ trivial (fun _ => ?_)
      clear hK K
      try simp only [Act.put, List.setIfInBounds_toArray, List.set_cons_zero, List.set_cons_succ]
      refine wpAnyP_go (by kernel_rfl) (wpAny_done (by kernel_rfl) ?_ _)
      exact NoPanic.normal (HH.out _ _ _ HSB.out.put23 _ _ _ _ _ _ _ _ _ _ _ _ _ _ _ _ _ _ _ _)
  ·
    go_simp
    refine hK.out _ _ (HoldsAt.of (by repeat first | exact HS9.out | apply NodeSt.alloc_ | apply NodeSt.drew_)) (fun _ => ?_)
    clear hK K
    try simp only [Act.put, List.setIfInBounds_toArray, List.set_cons_zero, List.set_cons_succ]
    refine wpAnyP_ready (rs := [7]) (by kernel_rfl) (by simp) (by kernel_rfl) (AllReadyP.cons (o := _) rfl (fun K hK => ?_) AllReadyP.nil)
    go_simp
    refine hK.out _ _ (HoldsAt.of (by repeat first | exact HS9.out | apply NodeSt.alloc_ | apply NodeSt.drew_)) (fun _ => ?_)
    clear hK K
    try simp only [Act.put, List.setIfInBounds_toArray, List.set_cons_zero, List.set_cons_succ]
    refine wpAnyP_ready (rs := [8]) (by kernel_rfl) (by simp) (by kernel_rfl) (AllReadyP.cons (o := _) rfl (fun K hK => ?_) AllReadyP.nil)
    refine step_append_intsL (S := fun _ => True) _ rfl (.tmp 102) (.tmp 104) rfl w.heap.size vp (zs ps) (by simp [go_sem]) (show ViSt w gr p s (a : Nat) d i 0 vp vt vp vt ps qs (qs ++ [q]) (ts ++ [t]) _ from by repeat first | exact HS9.out | apply NodeSt.alloc_ | apply NodeSt.drew_).own1 _ [(j : Int)] rfl (IntsR.oneAt (by repeat first | exact Blk.newAt (by simp) | apply Blk.drew_ | apply Blk.alloc)) (by simp [zs]; omega) (show ViSt w gr p s (a : Nat) d i 0 vp vt vp vt ps qs (qs ++ [q]) (ts ++ [t]) _ from by repeat first | exact HS9.out | apply NodeSt.alloc_ | apply NodeSt.drew_).grw.size ?_
    intro A1 c1 w1 ho hg hl
    have HSA := Lib.hid ((show ViSt w gr p s (a : Nat) d i 0 vp vt vp vt ps qs (qs ++ [q]) (ts ++ [t]) _ from by repeat first | exact HS9.out | apply NodeSt.alloc_ | apply NodeSt.drew_).app1 ho hg hl)
    have HK2 := Lib.hid (Blk.kept (W := ((w9.alloc (.cells #[.pointer (some ⟨q, 0, none⟩)] 91)).alloc (.cells #[.int .i64 (j : Nat)] 3)).drew) (g := w9.heap.size) (t := 91) (cs := #[.pointer (some ⟨q, 0, none⟩)]) (by repeat first | exact Blk.newAt (by simp) | apply Blk.drew_ | apply Blk.alloc) hg (fun e => by have := (HS9.out.own1.blk _ e.symm).2; omega))
    refine hK.out _ _ (HoldsAt.of HSA.out) (fun _ => ?_)
    clear hK K ho hg hl
    try simp only [Act.put, List.setIfInBounds_toArray, List.set_cons_zero, List.set_cons_succ]
    refine wpAnyP_ready (rs := [15]) (by kernel_rfl) (by simp) (by kernel_rfl) (AllReadyP.cons (o := _) rfl (fun K hK => ?_) AllReadyP.nil)
    refine step_append_G ptrT (S := fun _ => True) _ rfl (.tmp 109) (.tmp 111) rfl w.heap.size vt qs (by simp [go_sem]) (show ViSt w gr p s (a : Nat) d i 0 vp vt _ vt (ps ++ [j]) qs (qs ++ [q]) (ts ++ [t]) _ from by repeat first | exact HSA.out | apply NodeSt.alloc_ | apply NodeSt.drew_).own2 _ [q] rfl (SlR.oneP HK2.out) (by simp; omega) (show ViSt w gr p s (a : Nat) d i 0 vp vt _ vt (ps ++ [j]) qs (qs ++ [q]) (ts ++ [t]) _ from by repeat first | exact HSA.out | apply NodeSt.alloc_ | apply NodeSt.drew_).grw.size ?_
    intro A2 c2 w2 ho hg hl
    have HSB := Lib.hid ((show ViSt w gr p s (a : Nat) d i 0 vp vt _ vt (ps ++ [j]) qs (qs ++ [q]) (ts ++ [t]) _ from by repeat first | exact HSA.out | apply NodeSt.alloc_ | apply NodeSt.drew_).app2 ho hg hl)
    refine hK.out _ _ (HoldsAt.of HSB.out) (fun _ => ?_)
    clear hK K ho hg hl
    try simp only [Act.put, List.setIfInBounds_toArray, List.set_cons_zero, List.set_cons_succ]
    refine wpAnyP_go (by kernel_rfl) ?_
    refine wpAny_take (i := 16) (oi := _) (v := ?_) rfl (by kernel_rfl) (by kernel_rfl) (by kernel_rfl) (fun _ _ _ h => h) (Or.inl ⟨by rfl, ?_⟩) ?_
    case refine_2 => intro w0; go_simp; with_reducible rfl
    try simp only [Act.put, List.setIfInBounds_toArray, List.set_cons_zero, List.set_cons_succ]
    refine wpAny_take (i := 17) (oi := _) (v := ?_) rfl (by kernel_rfl) (by kernel_rfl) (by kernel_rfl) (fun _ _ _ h => h) (Or.inl ⟨by rfl, ?_⟩) ?_
    case refine_2 => intro w0; go_simp; with_reducible rfl
    try simp only [Act.put, List.setIfInBounds_toArray, List.set_cons_zero, List.set_cons_succ]
    have k2 := HSB.out.node.cell
    have f2 := HSB.out.node.free
    refine wpAny_of_P (S := fun _ => True) (n1 := 22) _ _ _ _ ?_
    refine wpAnyP_ready (rs := [18]) (by kernel_rfl) (by simp) (by kernel_rfl) (AllReadyP.cons (o := _) rfl (fun K hK => ?_) AllReadyP.nil)
    go_simp
    refine hK.out _ _ trivial (fun _ => ?_)
    clear hK K
    try simp only [Act.put, List.setIfInBounds_toArray, List.set_cons_zero, List.set_cons_succ]
    refine wpAnyP_take (i := 19) (oi := _) (v := ?_) rfl (by kernel_rfl) (by kernel_rfl) (by kernel_rfl) (by omega) (by kernel_rfl) (fun _ _ _ h => h) (Or.inl ⟨by rfl, ?_⟩) trivial ?_
    case refine_2 => intro w0 _; go_simp; with_reducible rfl
    try simp only [Act.put, List.setIfInBounds_toArray, List.set_cons_zero, List.set_cons_succ]
    refine wpAnyP_take (i := 20) (oi := _) (v := ?_) rfl (by kernel_rfl) (by kernel_rfl) (by kernel_rfl) (by omega) (by kernel_rfl) (fun _ _ _ h => h) (Or.inl ⟨by rfl, ?_⟩) trivial ?_
    case refine_2 => intro w0 _; go_simp; with_reducible rfl
    try simp only [Act.put, List.setIfInBounds_toArray, List.set_cons_zero, List.set_cons_succ]
    refine wpAnyP_ready (rs := [21]) (by kernel_rfl) (by simp) (by kernel_rfl) (AllReadyP.cons (o := _) rfl (fun K hK => ?_) AllReadyP.nil)
    go_simp
    refine hK.out _ _ trivial (fun _ => ?_)
    clear hK K
    try simp only [Act.put, List.setIfInBounds_toArray, List.set_cons_zero, List.set_cons_succ]
    refine wpAnyP_go (by kernel_rfl) (wpAny_done (by kernel_rfl) ?_ _)
    exact NoPanic.normal (HH.out _ _ _ HSB.out.put23 _ _ _ _ _ _ _ _ _ _ _ _ _ _ _ _ _ _ _ _)
end Go.Proofs.YtjoimponfeofkaaGreat

namespace Go.Proofs.YtjoimponfeofkaaGreat
open Go.RowKit

set_option maxRecDepth 100000 in
set_option maxHeartbeats 4000000 in
theorem rdView (f : Nat) : ∀ (w : World) (gr : Nat) (s : ByteArray) (a : Nat), Blk w gr 132 #[.string s, .int .i64 (a : Nat)] → a ≤ s.size → s.size ≤ 4000 → s.size - a < f →
    Calls Tryz.prog 97 #[.pointer (some ⟨gr, 0, none⟩)] w (RetView 132 w gr s (pg f (from_ s a))) := by
  induction f with
  | zero => intro w gr s a _ _ _ h; omega
  | succ f ih =>
    intro w gr s a hb ha hs hf
    have HB := Lib.hid hb
    have IH := Lib.hid ih
    have hgl : gr < w.heap.size := hb.lt
    clear hb ih
    cases h1 : dgt 6 (from_ s a) with
    | none =>
      have HN := Lib.hid (pg_none (pv_no1 (f := f) h1))
      have C1 := Lib.hid (rdDigit_no w gr s a 6 HB.out ha h1)
      clear h1
      go_enter Tryz.func97, Tryz.ntmps97
      go_wp2_with fail
      refine C1.out.mono ?_
      rintro e w1 ⟨rfl, hm1⟩
      have HM := Lib.hid hm1
      clear hm1
      go_wp2_with fail
      go_ret
      exact RetView.nil HN.out ha (HM.out.alloc _)
    | some x =>
      obtain ⟨d, l1⟩ := x
      obtain ⟨ha1, hd6, hl1⟩ := dgt_lt h1
      subst hl1
      have C1 := Lib.hid (rdDigit_yes w gr s a 6 d _ HB.out hs h1)
      have H1 := Lib.hid h1
      clear h1
      go_enter Tryz.func97, Tryz.ntmps97
      go_wp2_with fail
      refine C1.out.mono ?_
      rintro e w1 ⟨rfl, hm1⟩
      have hz1 : w.heap.size ≤ w1.heap.size := hm1.size
      have hst : ViSt w gr w1.heap.size s ((a + 1 : Nat) : Int) d 0 0 (.slice none 0 0) (.slice none 0 0) (.slice none 0 0) (.slice none 0 0) [] [] [] [] (w1.alloc (.cells #[.int .i64 d, .int .i64 0, .slice none 0 0, .slice none 0 0, .int .i64 0] 95)) := NodeSt.new hm1.1 hgl hm1.2 d
      have HS := Lib.hid hst
      have hd0 : ¬ (d : Int) < 0 := by omega
      clear hm1 hst C1
      obtain ⟨p, hp⟩ : ∃ p, p = w1.heap.size := ⟨_, rfl⟩
      have hpz : w.heap.size ≤ p := by omega
      cases h2 : sgn 46 (from_ s (a + 1)) with
      | none =>
        have HN := Lib.hid (pg_none (pv_no2 (f := f) H1.out h2))
        have C2 := Lib.hid (fun W hW => rdNext_n 46 46 rfl W gr s (a + 1) hW (by omega) h2)
        clear h2
        go_wp2_with fail
        rw [← hp] at HS ⊢
        clear hp
        generalize w1.alloc _ = wa at *
        refine (C2.out _ HS.out.rdr).mono ?_
        rintro e w2 ⟨rfl, hm2⟩
        have HM := Lib.hid (HS.out.mv.trans hm2)
        clear hm2
        go_wp2_with fail
        go_ret
        exact RetView.nil HN.out (by omega) HM.out
      | some l2 =>
        obtain ⟨ha2, hl2⟩ := sgn_lt h2
        subst hl2
        have C2 := Lib.hid (fun W hW => rdNext_y 46 46 rfl W gr s (a + 1) _ hW hs h2)
        have H2 := Lib.hid h2
        clear h2
        go_wp2_with fail
        rw [← hp] at HS ⊢
        clear hp
        generalize w1.alloc _ = wa at *
        refine (C2.out _ HS.out.rdr).mono ?_
        rintro e w2 ⟨rfl, hm2⟩
        have HS2 := Lib.hid (HS.out.moved hm2.1 hm2.2)
        clear hm2 HS C2
        cases h3 : dgt 9 (from_ s (a + 1 + 1)) with
        | none =>
          have HN := Lib.hid (pg_none (pv_no3 (f := f) H1.out H2.out h3))
          have C3 := Lib.hid (rdDigit_no w2 gr s (a + 1 + 1) 9 HS2.out.rdr (by omega) h3)
          clear h3
          go_wp2_with fail
          refine C3.out.mono ?_
          rintro e w3 ⟨rfl, hm3⟩
          have HS3 := Lib.hid (HS2.out.moved hm3.1 hm3.2)
          have HS4 := Lib.hid (HS3.out.put1 (-1))
          have hc3 := HS3.out.node.cell
          have hf3 := HS3.out.node.free
          clear hm3
          go_wp2_with fail
          go_ret
          exact RetView.nil HN.out (by omega) HS4.out.mv
        | some x =>
          obtain ⟨i, l3⟩ := x
          obtain ⟨ha3, hi9, hl3⟩ := dgt_lt h3
          subst hl3
          have C3 := Lib.hid (rdDigit_yes w2 gr s (a + 1 + 1) 9 i _ HS2.out.rdr hs h3)
          have H3 := Lib.hid h3
          clear h3
          go_wp2_with fail
          refine C3.out.mono ?_
          rintro e w3 ⟨rfl, hm3⟩
          have HS3 := Lib.hid (HS2.out.moved hm3.1 hm3.2)
          have HS4 := Lib.hid (HS3.out.put1 (i : Int))
          have hc3 := HS3.out.node.cell
          have hf3 := HS3.out.node.free
          have hi0 : ¬ (i : Int) < 0 := by omega
          clear hm3 C3 HS2
          by_cases hd : d = 0
          · subst hd
            have HN := Lib.hid (pg_some (pv_leaf (f := f) H1.out H2.out H3.out (.inl rfl)) (leaf_good 0 i))
            go_wp2_with fail
            go_ret
            exact RetView.ptr HN.out (by omega) HS4.out.mv (NodeSt.tree HS4.out)
          · have hde : ((d : Int) == 0) = false := by simp [hd]
            cases h4 : sgn 40 (from_ s (a + 1 + 1 + 1)) with
            | none =>
              have HN := Lib.hid (pg_some (pv_leaf (f := f) H1.out H2.out H3.out (.inr h4)) (leaf_good d i))
              have C4 := Lib.hid (fun W hW => rdNext_n 40 40 rfl W gr s (a + 1 + 1 + 1) hW (by omega) h4)
              clear h4
              go_wp2_with fail
              refine (C4.out _ HS4.out.rdr).mono ?_
              rintro e w4 ⟨rfl, hm4⟩
              have HS5 := Lib.hid (HS4.out.moved hm4.1 hm4.2)
              clear hm4
              go_wp2_with fail
              go_ret
              exact RetView.ptr HN.out (by omega) HS5.out.mv (NodeSt.tree HS5.out)
            | some l4 =>
              obtain ⟨ha4, hl4⟩ := sgn_lt h4
              subst hl4
              have HX := Lib.hid (pv_kids (f := f) H1.out H2.out H3.out hd h4)
              have C4 := Lib.hid (fun W hW => rdNext_y 40 40 rfl W gr s (a + 1 + 1 + 1) _ hW hs h4)
              have H4 := Lib.hid h4
              clear h4
              go_wp2_with fail
              refine (C4.out _ HS4.out.rdr).mono ?_
              rintro e w4 ⟨rfl, hm4⟩
              have HS5 := Lib.hid (HS4.out.moved hm4.1 hm4.2)
              have hc5 := HS5.out.node.cell
              have hf5 := HS5.out.node.free
              clear hm4 C4 HS4 HS3 hc3 hf3
              go_wp2_with fail
              clear hc5 hf5
              go_loopw [46] (fun c wr => ViRel f w gr p s (a + 1 + 1 + 1) d i c wr) (fun c _ => d - (intOf c).toNat)
              case atStart =>
                exact ⟨0, a + 1 + 1 + 1, a + 1 + 1 + 1 + 1, _, _, [], [], [], 40, Nat.zero_le _, rfl, by omega, by omega, rfl, rfl, rfl, HS5.out, (pre_nil _).symm, fun _ => ⟨rfl, H4.out⟩, fun h => absurd h (Nat.lt_irrefl _), (fun t h => absurd h List.not_mem_nil), (fun t h => absurd h List.not_mem_nil)⟩
              case round =>
                clear HS5
                obtain ⟨k, b0, a1, vp, vt, ps, qs, ts, sep, hk, rfl, hal, haf, hpl, hql, htl, hst, hx, hk0, hk1, hgd, hsm⟩ := hrel
                have HS := Lib.hid hst
                have HX1 := Lib.hid hx
                have HK0 := Lib.hid hk0
                have HK1 := Lib.hid hk1
                have HGD := Lib.hid hgd
                have HSM := Lib.hid hsm
                have hc := hst.node.cell
                clear hst hx hk0 hk1 hgd hsm
                by_cases hlt : k < d
                · obtain ⟨m, hm⟩ : ∃ m, d - k = m + 1 := ⟨d - k - 1, by omega⟩
                  have HXX : Hid (pv (f + 1) (from_ s a) = fin d i (pre ps ts (pks (pv f) (m + 1) sep (from_ s b0)))) := Lib.hid (by rw [HX.out, HX1.out, hm])
                  have HM := Lib.hid hm
                  clear hm
                  go_upto_region 12 with (fail)
                  go_cut [55] (fun c W => ∃ a2, a2 ≤ s.size ∧ a1 ≤ a2 ∧ ViSt w gr p s (a2 : Nat) d i 0 vp vt vp vt ps qs qs ts W ∧ ((c = .bool true ∧ pg (f + 1) (from_ s a) = none) ∨ (c = .bool false ∧ sgn sep (from_ s b0) = some (from_ s a2))))
                  case first =>
                    by_cases hk : k = 0
                    · have e1 : decide (0 < k) = false := by simp [hk]
                      have HE : Hid (sgn sep (from_ s b0) = some (from_ s a1)) := Lib.hid (by rw [(HK0.out hk).1]; exact (HK0.out hk).2)
                      clear hk
                      go_wp2_with fail
                      go_meet
                      exact ⟨a1, hal, Nat.le_refl _, HS.out, .inr ⟨rfl, HE.out⟩⟩
                    · have e1 : decide (0 < k) = true := by simp; omega
                      obtain ⟨rfl, rfl⟩ := HK1.out (by omega)
                      clear hk
                      cases h5 : sgn 44 (from_ s b0) with
                      | none =>
                        have C5 := Lib.hid (rdNext_n 44 44 rfl wr gr s b0 HS.out.rdr hal h5)
                        have HN : Hid (pg (f + 1) (from_ s a) = none) := Lib.hid (pg_none (by rw [HXX.out, pks_none1 _ h5]; rfl))
                        clear h5
                        go_wp2_with (go_at_call 114; refine C5.out.mono ?_; rintro e w5 ⟨rfl, hm5⟩; have HS5 := Lib.hid (HS.out.moved hm5.1 hm5.2); clear hm5)
                        go_meet
                        exact ⟨b0, hal, Nat.le_refl _, HS5.out, .inl ⟨rfl, HN.out⟩⟩
                      | some l5 =>
                        obtain ⟨ha5, hl5⟩ := sgn_lt h5
                        subst hl5
                        have C5 := Lib.hid (rdNext_y 44 44 rfl wr gr s b0 _ HS.out.rdr hs h5)
                        have HE := Lib.hid h5
                        clear h5
                        go_wp2_with (go_at_call 114; refine C5.out.mono ?_; rintro e w5 ⟨rfl, hm5⟩; have HS5 := Lib.hid (HS.out.moved hm5.1 hm5.2); clear hm5)
                        go_meet
                        exact ⟨b0 + 1, by omega, by omega, HS5.out, .inr ⟨rfl, HE.out⟩⟩
                  case rest =>
                  obtain ⟨a2, hal2, ha12, hst2, hor⟩ := hcut
                  have HS2 := Lib.hid hst2
                  clear hst2 HS HK0 HK1 hc
                  rcases hor with ⟨rfl, hn⟩ | ⟨rfl, hsg⟩
                  · have HN := Lib.hid hn
                    clear hn
                    go_wp2_with fail
                    go_ret
                    exact RetView.nil HN.out hal2 HS2.out.mv
                  have HSG := Lib.hid hsg
                  clear hsg
                  cases h6 : dgt 5 (from_ s a2) with
                  | none =>
                    have C6 := Lib.hid (rdDigit_no _ gr s a2 5 HS2.out.rdr hal2 h6)
                    have HN : Hid (pg (f + 1) (from_ s a) = none) := Lib.hid (pg_none (by rw [HXX.out, pks_none2 _ HSG.out h6]; rfl))
                    clear h6
                    go_wp2_with fail
                    refine C6.out.mono ?_
                    rintro e w6 ⟨rfl, hm6⟩
                    have HS6 := Lib.hid (HS2.out.moved hm6.1 hm6.2)
                    clear hm6
                    go_wp2_with fail
                    go_ret
                    exact RetView.nil HN.out hal2 HS6.out.mv
                  | some x6 =>
                  obtain ⟨j, l6⟩ := x6
                  obtain ⟨ha6, hj5, hl6⟩ := dgt_lt h6
                  subst hl6
                  have C6 := Lib.hid (rdDigit_yes _ gr s a2 5 j _ HS2.out.rdr hs h6)
                  have H6 := Lib.hid h6
                  have hj0 : ¬ (j : Int) < 0 := by omega
                  clear h6
                  go_wp2_with fail
                  refine C6.out.mono ?_
                  rintro e w6 ⟨rfl, hm6⟩
                  have HS6 := Lib.hid (HS2.out.moved hm6.1 hm6.2)
                  clear hm6 C6 HS2
                  cases h7 : sgn 58 (from_ s (a2 + 1)) with
                  | none =>
                    have C7 := Lib.hid (rdNext_n 58 58 rfl w6 gr s (a2 + 1) HS6.out.rdr (by omega) h7)
                    have HN : Hid (pg (f + 1) (from_ s a) = none) := Lib.hid (pg_none (by rw [HXX.out, pks_none3 _ HSG.out H6.out h7]; rfl))
                    clear h7
                    go_wp2_with fail
                    refine C7.out.mono ?_
                    rintro e w7 ⟨rfl, hm7⟩
                    have HS7 := Lib.hid (HS6.out.moved hm7.1 hm7.2)
                    clear hm7
                    go_wp2_with fail
                    go_ret
                    exact RetView.nil HN.out (by omega) HS7.out.mv
                  | some l7 =>
                  obtain ⟨ha7, hl7⟩ := sgn_lt h7
                  subst hl7
                  have C7 := Lib.hid (rdNext_y 58 58 rfl w6 gr s (a2 + 1) _ HS6.out.rdr hs h7)
                  have H7 := Lib.hid h7
                  clear h7
                  go_wp2_with fail
                  refine C7.out.mono ?_
                  rintro e w7 ⟨rfl, hm7⟩
                  have HS7 := Lib.hid (HS6.out.moved hm7.1 hm7.2)
                  clear hm7 C7 HS6
                  go_wp2_with fail
                  refine (IH.out w7 gr s (a2 + 1 + 1) HS7.out.rdr (by omega) hs (by omega)).mono ?_
                  rintro e w8 ⟨a5, ha5, hm8, hres⟩
                  cases h8 : pg f (from_ s (a2 + 1 + 1)) with
                  | none =>
                    rw [h8] at hres
                    have hres : e = .returned (.pointer none) := hres
                    subst hres
                    have HN : Hid (pg (f + 1) (from_ s a) = none) := Lib.hid (by
                      rcases pg_no h8 with h9 | ⟨t, r, h9, hb⟩
                      · exact pg_none (by rw [HXX.out, pks_none4 _ HSG.out H6.out H7.out h9]; rfl)
                      · by_cases hj : j < t.deg
                        · exact pg_part (ps := ps ++ [j]) (ts := ts ++ [t]) (by rw [HXX.out, pre_step (pv f) ps ts HSG.out H6.out H7.out h9 hj]) (u := t) (by simp) hb
                        · exact pg_none (by rw [HXX.out, pks_none5 _ HSG.out H6.out H7.out h9 hj]; rfl))
                    have HS8 := Lib.hid (HS7.out.moved hm8.1 hm8.2)
                    clear hm8 h8
                    go_wp2_with fail
                    go_quiet (fail)
                    go_wp2_with fail
                    go_ret
                    exact RetView.nil HN.out ha5 (HS8.out.mv.trans (Moved.same HS8.out.rdr _))
                  | some x8 =>
                  obtain ⟨t, r8⟩ := x8
                  rw [h8] at hres
                  obtain ⟨hr8, q, he8, ht8⟩ := hres
                  have ha5l : a + 1 + 1 + 1 < a5 := by
                    have h10 := pv_len (pg_inv h8).1
                    rw [hr8, from_len, from_len] at h10
                    omega
                  subst hr8 he8
                  obtain ⟨h9, hg9⟩ := pg_inv h8
                  have hs8 := HS7.out.part hm8.1 hm8.2 ht8
                  have HS8 := Lib.hid hs8
                  have H9 := Lib.hid h9
                  have HG9 := Lib.hid hg9
                  obtain ⟨kq0, kq4, -, -⟩ := ht8.deg
                  have kp := hs8.node.cell
                  clear hm8 h8 h9 hg9 hs8 ht8
                  by_cases hj : j < t.deg
                  case neg =>
                    have HN : Hid (pg (f + 1) (from_ s a) = none) := Lib.hid (pg_none (by rw [HXX.out, pks_none5 _ HSG.out H6.out H7.out H9.out hj]; rfl))
                    have e8 : decide (t.deg ≤ j) = true := by simp; omega
                    clear hj
                    go_wp2_with fail
                    go_quiet (fail)
                    go_wp2_with fail
                    go_ret
                    exact RetView.nil HN.out ha5 (HS8.out.mv.trans (Moved.same HS8.out.rdr _))
                  have e8 : decide (t.deg ≤ j) = false := by simp; omega
                  have HXS : Hid (pv (f + 1) (from_ s a) = fin d i (pre (ps ++ [j]) (ts ++ [t]) (pks (pv f) m 44 (from_ s a5)))) := Lib.hid (by rw [HXX.out, pre_step (pv f) ps ts HSG.out H6.out H7.out H9.out hj])
                  have HJ := Lib.hid hj
                  clear hj kp kq0 kq4
                  go_upto_region 18 with (fail)
                  go_cut [96] (fun c W => (∃ n, W = w8.drewN n) ∧ ((c = .bool true ∧ pg (f + 1) (from_ s a) = none) ∨ (c = .bool false ∧ ∀ u ∈ ts, t.dep = u.dep)))
                  case first =>
                    have ht8 := HS8.out.trees.at_ (j := ts.length) (by simp)
                    have hga : ga (ts ++ [t]) ts.length = t := by simp [ga]
                    have hgq : ga (qs ++ [q]) ts.length = q := by rw [htl, ← hql]; simp [ga]
                    rw [hga, hgq] at ht8
                    obtain ⟨kq0, kq4, -, -⟩ := ht8.deg
                    have kp := HS8.out.node.cell
                    clear ht8 hga hgq
                    by_cases hk : k = 0
                    · have e9 : decide (0 < k) = false := by simp [hk]
                      have HE : Hid (∀ u ∈ ts, t.dep = u.dep) := Lib.hid (by
                        have : ts = [] := List.eq_nil_of_length_eq_zero (by omega)
                        rw [this]; exact fun u h => absurd h List.not_mem_nil)
                      clear hk
                      go_quiet (fail)
                      go_wp2_with fail
                      go_meet
                      exact ⟨⟨_, rfl⟩, .inr ⟨rfl, HE.out⟩⟩
                    · have e9 : decide (0 < k) = true := by simp; omega
                      obtain ⟨g, cap, hvt, -, -, -, -⟩ := HS8.out.own2.addr (by omega)
                      have hown := HS8.out.own2
                      subst hvt
                      have kg := (hown.at_ (j := 0) (by omega)).1 0 (by decide)
                      have ht0 := HS8.out.trees.at_ (j := 0) (by simp)
                      have hga : ga (ts ++ [t]) 0 = ga ts 0 := ga_left (by omega)
                      have hgq : ga (qs ++ [q]) 0 = ga qs 0 := ga_left (by omega)
                      rw [hga, hgq] at ht0
                      obtain ⟨-, k04, -, -⟩ := ht0.deg
                      simp only [encP, Nat.zero_mul, Nat.add_zero, List.getElem?_cons_zero] at kg
                      have hql0 : (0 : Int) < (qs.length : Int) := by omega
                      have hql1 : 0 < qs.length := by omega
                      clear hown ht0 hga hgq
                      by_cases hdd : t.dep = (ga ts 0).dep
                      · have e10 : ((t.dep : Int) != ((ga ts 0).dep : Int)) = false := by simp [hdd]
                        have HE : Hid (∀ u ∈ ts, t.dep = u.dep) := Lib.hid fun u hu => hdd.trans (HSM.out _ (ga_mem (by omega)) u hu)
                        clear hdd hk
                        go_quiet (fail)
                        go_wp2_with fail
                        go_meet
                        exact ⟨⟨_, rfl⟩, .inr ⟨rfl, HE.out⟩⟩
                      · have e10 : ((t.dep : Int) != ((ga ts 0).dep : Int)) = true := by simp; omega
                        have HE : Hid (pg (f + 1) (from_ s a) = none) := Lib.hid (pg_differ HXS.out (u := t) (v := ga ts 0) (by simp) (List.mem_append_left _ (ga_mem (by omega))) hdd)
                        clear hdd hk
                        go_quiet (fail)
                        go_wp2_with fail
                        go_meet
                        exact ⟨⟨_, rfl⟩, .inl ⟨rfl, HE.out⟩⟩
                  case rest =>
                  obtain ⟨⟨n9, rfl⟩, hor⟩ := hcut
                  have HS9 := Lib.hid (HS8.out.below (below_drewN (Below.refl _ _) n9))
                  clear HS8
                  rcases hor with ⟨rfl, hn⟩ | ⟨rfl, hse⟩
                  · have HN := Lib.hid hn
                    clear hn
                    go_wp2_with fail
                    go_ret
                    exact RetView.nil HN.out ha5 HS9.out.mv
                  have HSE := Lib.hid hse
                  clear hse
                  generalize w8.drewN n9 = w9 at *
                  go_upto_region 20 with (fail)
                  have HXT : Hid (pks (pv f) d 40 (from_ s (a + 1 + 1 + 1)) = pre (ps ++ [j]) (ts ++ [t]) (pks (pv f) (d - (k + 1)) 44 (from_ s a5))) := Lib.hid (by
                    have h3 := HX1.out
                    rw [HM.out, pre_step (pv f) ps ts HSG.out H6.out H7.out H9.out HJ.out] at h3
                    have h4 := HM.out
                    rw [h3, show d - (k + 1) = m by omega])
                  have HGT : Hid (∀ u ∈ ts ++ [t], u.good = true) := Lib.hid fun u hu => by
                    rcases List.mem_append.1 hu with h | h
                    · exact HGD.out u h
                    · rw [List.mem_singleton.1 h]; exact HG9.out
                  have HST : Hid (∀ u ∈ ts ++ [t], ∀ v ∈ ts ++ [t], u.dep = v.dep) := Lib.hid fun u hu v hv => by
                    rcases List.mem_append.1 hu with h | h <;> rcases List.mem_append.1 hv with h' | h'
                    · exact HSM.out u h v h'
                    · rw [List.mem_singleton.1 h']; exact (HSE.out u h).symm
                    · rw [List.mem_singleton.1 h]; exact HSE.out v h'
                    · rw [List.mem_singleton.1 h, List.mem_singleton.1 h']
                  have HREL : Hid (∀ vp' vt' W, ViSt w gr p s (a5 : Nat) d i 0 vp' vt' vp' vt' (ps ++ [j]) (qs ++ [q]) (qs ++ [q]) (ts ++ [t]) W → ViRel f w gr p s (a + 1 + 1 + 1) d i (.int .i64 ((k : Int) + 1)) W) := Lib.hid fun vp' vt' W hst =>
                    ⟨k + 1, a5, a5, vp', vt', ps ++ [j], qs ++ [q], ts ++ [t], 44, by omega, by go_num, ha5, ha5l, by simp [hpl], by simp [hql], by simp [htl], hst, HXT.out, fun h => absurd h (by omega), fun _ => ⟨rfl, rfl⟩, HGT.out, HST.out⟩
                  refine viReg20 HS9.out (by omega) (by omega) _ _ _ _ _ _ _ _ _ _ _ _ _ _ _ _ _ _ _ _ _ _ _ _ _ _ _ _ _ _ _ _ _ _ _ _ _ _ _ _ _ _ _ _ _ _ _ _ _ _ _ _ _ _ _ _ _ _ _ _ _ _ _ _ _ _ _ _ _ _ _ _ _ _ _ _ _ _ _ _ _ _ _ _ _ _ _ _ _ _ _ _ _ _ _ _ _ _ _ _ _ _ _ _ _ _ _ _ _ _ _ _ _ _ _ _ _ _ _ _ _ _ _ _ _ _ _ _ _ _ _ _ _ _ _ _ _ _ _ _ ?_
                  intro vp' vt' W hst
                  have HSA := Lib.hid (HREL.out vp' vt' W hst)
                  intro _ _ _ _ _ _ _ _ _ _ _ _ _ _ _ _ _ _ _ _
                  clear hst
                  go_wp2_with fail
                  go_roundw
                  case rel => exact HSA.out
                  case measure => simp [intOf]; omega
                · obtain rfl : k = d := by omega
                  have hkp : 0 < k := by omega
                  obtain ⟨rfl, rfl⟩ := HK1.out hkp
                  have HXX : Hid (pv (f + 1) (from_ s a) = fin k i (some (ps, ts, from_ s b0))) := Lib.hid (by rw [HX.out, HX1.out, Nat.sub_self, pre_zero])
                  obtain ⟨g, cap, hvt, -, -, -, -⟩ := HS.out.own2.addr (by omega)
                  subst hvt
                  have kg := (HS.out.own2.at_ (j := 0) (by omega)).1 0 (by decide)
                  obtain ⟨-, k04, -, -⟩ := (HS.out.trees.at_ (j := 0) (by omega)).deg
                  simp only [encP, Nat.zero_mul, Nat.add_zero, List.getElem?_cons_zero] at kg
                  have hql0 : (0 : Int) < (qs.length : Int) := by omega
                  have hql1 : 0 < qs.length := by omega
                  have hde : deps ts = (ga ts 0).dep + 1 := deps_same (fun t ht => HSM.out t ht _ (ga_mem (by omega))) (fun e => by rw [e] at htl; simp at htl; omega)
                  have hdl : (ga ts 0).dep ≤ 80 := by
                    have := HGD.out _ (ga_mem (xs := ts) (j := 0) (by omega))
                    simp only [VT.good, Bool.and_eq_true, decide_eq_true_eq] at this
                    exact this.2
                  have hw1 : IntKind.i64.wrap (((ga ts 0).dep : Int) + 1) = ((ga ts 0).dep : Int) + 1 := IntWalk.i64_in _ (by omega)
                  have HS1 := Lib.hid (HS.out.put4 (((ga ts 0).dep : Int) + 1))
                  have hf := HS.out.node.free
                  have HDE := Lib.hid hde
                  clear hde
                  cases h5 : sgn 41 (from_ s b0) with
                  | none =>
                    have HN : Hid (pg (f + 1) (from_ s a) = none) := Lib.hid (pg_none (by rw [HXX.out]; simp [fin, h5]))
                    have C5 := Lib.hid (rdNext_n 41 41 rfl _ gr s b0 HS1.out.rdr hal h5)
                    clear h5
                    go_wp2_with fail
                    refine C5.out.mono ?_
                    rintro e w5 ⟨rfl, hm5⟩
                    have HS5 := Lib.hid (HS1.out.moved hm5.1 hm5.2)
                    clear hm5
                    go_wp2_with fail
                    go_ret
                    exact RetView.nil HN.out hal HS5.out.mv
                  | some l5 =>
                    obtain ⟨ha5, hl5⟩ := sgn_lt h5
                    subst hl5
                    have HP : Hid (pv (f + 1) (from_ s a) = some (.mk k i ps ts, from_ s (b0 + 1))) := Lib.hid (by rw [HXX.out]; simp [fin, h5])
                    have C5 := Lib.hid (rdNext_y 41 41 rfl _ gr s b0 _ HS1.out.rdr hs h5)
                    clear h5
                    go_wp2_with fail
                    refine C5.out.mono ?_
                    rintro e w5 ⟨rfl, hm5⟩
                    have hs5 := HS1.out.moved hm5.1 hm5.2
                    have HS5 := Lib.hid hs5
                    have k5 := hs5.node.cell
                    clear hm5 hs5
                    by_cases h80 : (ga ts 0).dep + 1 ≤ 80
                    · have hgt : (VT.mk k i ps ts).good = true := good_mk HGD.out HSM.out (by rw [HDE.out]; exact h80)
                      have HN := Lib.hid (pg_some HP.out hgt)
                      have e1 : ¬ (80 : Int) < ((ga ts 0).dep : Int) + 1 := by omega
                      clear hgt
                      go_wp2_with fail
                      go_ret
                      refine RetView.ptr HN.out (by omega) HS5.out.mv ?_
                      have := HS5.out
                      have e2 : ((ga ts 0).dep : Int) + 1 = ((deps ts : Nat) : Int) := by rw [HDE.out]; rfl
                      rw [e2] at this
                      exact NodeSt.tree this
                    · have HN : Hid (pg (f + 1) (from_ s a) = none) := Lib.hid (pg_bad fun t r ht => by
                        rw [HP.out] at ht
                        simp only [Option.some.injEq, Prod.mk.injEq] at ht
                        obtain ⟨rfl, rfl⟩ := ht
                        simp only [VT.good, dep_mk, HDE.out, Bool.and_eq_false_iff, decide_eq_false_iff_not]
                        exact .inr h80)
                      have e1 : (80 : Int) < ((ga ts 0).dep : Int) + 1 := by omega
                      go_wp2_with fail
                      go_ret
                      exact RetView.nil HN.out (by omega) HS5.out.mv
end Go.Proofs.YtjoimponfeofkaaGreat

namespace Go.Proofs.YtjoimponfeofkaaGreat
open Go.RowKit

/-- a tree of a view's text, or none -/
def RetTr (w : World) (x : Option VT) (e : Ending) (w' : World) : Prop := Below w.heap.size w w' ∧ (match x with
  | none => e = .returned (.pointer none)
  | some t => ∃ p, e = .returned (.pointer (some ⟨p, 0, none⟩)) ∧ TreeR w' (fun b => w.heap.size ≤ b) t p)
theorem RetTr.nil {w w' : World} {x : Option VT} (h : x = none) (hb : Below w.heap.size w w') : RetTr w x (.returned (.pointer none)) w' := by subst h; exact ⟨hb, rfl⟩
theorem RetTr.ptr {w w' : World} {x : Option VT} {t : VT} {p : Nat} (h : x = some t) (hb : Below w.heap.size w w') (ht : TreeR w' (fun b => w.heap.size ≤ b) t p) : RetTr w x (.returned (.pointer (some ⟨p, 0, none⟩))) w' := by subst h; exact ⟨hb, p, rfl, ht⟩
theorem from_nil_of {s : ByteArray} {a : Nat} (h : ¬ a < s.size) : from_ s a = [] := from_end (by omega)
theorem viewOf_some {s : ByteArray} {t : VT} {a : Nat} (hs : s.size ≤ 4000) (h : pg (s.size + 1) (from_ s 0) = some (t, from_ s a)) (ha : ¬ a < s.size) : viewOf s = some t := by
  unfold viewOf; rw [if_pos hs, h, from_nil_of ha]
theorem viewOf_rest {s : ByteArray} {t : VT} {a : Nat} (h : pg (s.size + 1) (from_ s 0) = some (t, from_ s a)) (ha : a < s.size) : viewOf s = none := by
  unfold viewOf; rw [h, from_lt ha]; split <;> rfl
theorem viewOf_none {s : ByteArray} (h : pg (s.size + 1) (from_ s 0) = none) : viewOf s = none := by
  unfold viewOf; rw [h]; split <;> rfl
theorem viewOf_long {s : ByteArray} (h : ¬ s.size ≤ 4000) : viewOf s = none := by
  unfold viewOf; rw [if_neg h]
theorem Moved.new {t : TypeId} {w w' : World} {s : ByteArray} {a : Nat} {o : Obj} (h : Moved t (w.alloc o) w' w.heap.size s a) : Below w.heap.size w w' :=
  ((Below.refl w.heap.size w).alloc (Nat.le_refl _) o).grown h.2 (by simp) (fun k hk => by cases hk; exact Nat.le_refl _)

set_option maxRecDepth 100000 in
set_option maxHeartbeats 1000000 in
theorem readView_any (s : ByteArray) (w : World) : Calls Tryz.prog 64 #[.string s] w (RetTr w (viewOf s)) := by
  by_cases hs : s.size ≤ 4000
  case neg =>
    have HN := Lib.hid (viewOf_long hs)
    have e1 : (4000 : Int) < (s.size : Int) := by omega
    clear hs
    go_enter Tryz.func64, Tryz.ntmps64
    go_wp2_with fail
    go_ret
    exact RetTr.nil HN.out (Below.refl _ _)
  have e1 : ¬ (4000 : Int) < (s.size : Int) := by omega
  go_enter Tryz.func64, Tryz.ntmps64
  go_wp2_with fail
  refine (rdView (s.size + 1) _ w.heap.size s 0 (Blk.new w _ _) (by omega) hs (by omega)).mono ?_
  rintro e w1 ⟨a, ha, hm, hres⟩
  have HM := Lib.hid hm.new
  have HA := Lib.hid (by simp : w.heap.size ≤ (w.alloc (.cells #[.string s, .int .i64 (0 : Nat)] 132)).heap.size)
  have kr := hm.1.cell
  clear hm
  cases hp : pg (s.size + 1) (from_ s 0) with
  | none =>
    rw [hp] at hres
    have hres : e = .returned (.pointer none) := hres
    subst hres
    have HN := Lib.hid (viewOf_none hp)
    clear hp
    by_cases hl : a < s.size
    · go_wp2_with fail
      go_ret
      exact RetTr.nil HN.out HM.out
    · go_wp2_with fail
      go_ret
      exact RetTr.nil HN.out HM.out
  | some x =>
    obtain ⟨t, r⟩ := x
    rw [hp] at hres
    obtain ⟨rfl, p, rfl, ht⟩ := hres
    by_cases hl : a < s.size
    · have HN := Lib.hid (viewOf_rest hp hl)
      clear hp ht
      go_wp2_with fail
      go_ret
      exact RetTr.nil HN.out HM.out
    · have HN := Lib.hid (viewOf_some hs hp hl)
      have HT := Lib.hid (ht.weak (S' := fun b => w.heap.size ≤ b) (fun b hb => by have := HA.out; omega))
      clear hp ht
      go_wp2_with fail
      go_ret
      exact RetTr.ptr HN.out HM.out HT.out
end Go.Proofs.YtjoimponfeofkaaGreat

namespace Go.Proofs.YtjoimponfeofkaaGreat
open Go.RowKit
theorem inB_or (z : Int) : True := trivial
/-- what the reader gave, as a value -/
def TrV (B : Nat) (x : Option VT) (v : Value) (w' : World) : Prop := match x with | none => v = .pointer none | some t => ∃ p, v = .pointer (some ⟨p, 0, none⟩) ∧ TreeR w' (fun b => B ≤ b) t p
theorem RetTr.out {w w' : World} {x : Option VT} {e : Ending} (h : RetTr w x e w') : Below w.heap.size w w' ∧ ∃ v, e = .returned v ∧ TrV w.heap.size x v w' := by
  cases x with
  | none => exact ⟨h.1, _, h.2, rfl⟩
  | some t => obtain ⟨hb, p, rfl, ht⟩ := h; exact ⟨hb, _, rfl, p, rfl, ht⟩

set_option maxRecDepth 100000 in
set_option maxHeartbeats 4000000 in
theorem IsTable_any {S : Nat → Prop} (v : Value) (D : Int) (rows : List RowT) (w : World) (h : SlR encR w S v rows) :
    Calls Tryz.prog 38 #[.agg #[.int .i64 D, v]] w (RetV w (.bool (tabB D rows))) := by
  have hbd := h.bound
  have HR := Lib.hid h
  obtain ⟨A, c, rfl, hnc, hm, hx⟩ := h
  unfold maxLen at hm
  have HX := Lib.hid hx
  clear hx
  have hb0 : Below w.heap.size w (w.alloc (.cells #[.int .i64 D, .slice A rows.length c] 35)) := (Below.refl _ _).alloc (Nat.le_refl _) _
  have HB0 := Lib.hid hb0
  have HK0 := Lib.hid (Blk.new w 35 #[.int .i64 D, .slice A rows.length c])
  clear hb0
  cases hD : inB D 0 4 with
  | false =>
    have CW := Lib.hid (fun W => within_b D 0 4 false W hD)
    have HN : Hid (tabB D rows = false) := Lib.hid (by simp [tabB, hD])
    clear hD
    go_enter Tryz.func38, Tryz.ntmps38
    go_wp2_with (go_at_call 49; refine (CW.out _).mono ?_; rintro e w1 ⟨rfl, rfl⟩)
    go_ret
    exact ⟨by rw [HN.out]; rfl, HB0.out⟩
  | true =>
  have CW := Lib.hid (fun W => within_b D 0 4 true W hD)
  have HD := Lib.hid hD
  clear hD
  by_cases hl : 60 < rows.length
  · have HN : Hid (tabB D rows = false) := Lib.hid (by simp [tabB, show ¬ rows.length ≤ 60 by omega])
    go_enter Tryz.func38, Tryz.ntmps38
    go_wp2_with (go_at_call 49; refine (CW.out _).mono ?_; rintro e w1 ⟨rfl, rfl⟩)
    go_ret
    exact ⟨by rw [HN.out]; rfl, HB0.out⟩
  go_enter Tryz.func38, Tryz.ntmps38
  go_wp2_with (go_at_call 49; refine (CW.out _).mono ?_; rintro e w1 ⟨rfl, rfl⟩)
  clear CW
  go_loopw [19] (fun i wr => ∃ k : Nat, k ≤ rows.length ∧ i = .int .i64 k ∧ (∀ j, j < k → rowB D (ga rows j) = true ∧ (0 < j → lessB (ga rows (j - 1)).1 (ga rows j).1 = true)) ∧
      Blk wr w.heap.size 35 #[.int .i64 D, .slice A rows.length c] ∧ Below w.heap.size w wr) (fun i _ => rows.length - (intOf i).toNat)
  case atStart => exact ⟨0, Nat.zero_le _, rfl, fun j hj => absurd hj (Nat.not_lt_zero _), HK0.out, HB0.out⟩
  case round =>
    obtain ⟨k, hk, rfl, hj, hblk, hbel⟩ := hrel
    have HJ := Lib.hid hj
    have HK := Lib.hid hblk
    have HB := Lib.hid hbel
    clear hj hblk hbel
    by_cases hlt : k < rows.length
    · obtain ⟨b, off, rfl, -, hbl, hc⟩ := HX.out (by omega)
      have hcr : ∀ j, j < rows.length → w.cell? ⟨b, off + j * 2, none⟩ = some (.string (ga rows j).1) ∧ w.cell? ⟨b, off + j * 2 + 1, none⟩ = some (.int .i64 (ga rows j).2) := fun j hj => by
        have h0 := hc j hj 0 (by decide)
        have h1 := hc j hj 1 (by decide)
        simp only [encR, Nat.add_zero, List.getElem?_cons_zero, List.getElem?_cons_succ] at h0 h1
        exact ⟨h0, h1⟩
      have HC := Lib.hid hcr
      have hzw : b < wr.heap.size := Nat.lt_of_lt_of_le hbl HB.out.size
      have hck := hcr k hlt
      have c0 : wr.cell? ⟨b, off + k * 2, none⟩ = some (.string (ga rows k).1) := (HB.out.cell (p := ⟨b, off + k * 2, none⟩) hbl).trans hck.1
      have c1 : wr.cell? ⟨b, off + k * 2 + 1, none⟩ = some (.int .i64 (ga rows k).2) := (HB.out.cell (p := ⟨b, off + k * 2 + 1, none⟩) hbl).trans hck.2
      have i0 : (0 : Int) ≤ (k : Int) := by omega
      have i1 : (k : Int) < (rows.length : Int) := by omega
      have hbw : Below wr.heap.size wr (wr.alloc (.cells #[.string (ga rows k).1, .int .i64 (ga rows k).2] 76)) := (Below.refl _ _).alloc (Nat.le_refl _) _
      have HBW := Lib.hid (Below.then_ HB.out (hbw.mono HB.out.size |> fun h => hbw))
      have HKW := Lib.hid (HK.out.below hbw)
      have HRW := Lib.hid (Blk.new wr 76 #[.string (ga rows k).1, .int .i64 (ga rows k).2])
      clear hc hcr hck hbw
      go_wp2_with fail
      generalize wr.alloc (.cells #[.string (ga rows k).1, .int .i64 (ga rows k).2] 76) = wa at *
      refine (readView_any (ga rows k).1 wa).mono ?_
      intro e w1 hrt
      obtain ⟨hb1, pv1, rfl, hres⟩ := hrt.out
      clear hrt
      have HB1 := Lib.hid (Below.then_ HBW.out hb1)
      have HK1 := Lib.hid (HKW.out.below hb1)
      have HR1 := Lib.hid (HRW.out.below hb1)
      clear hb1 c0 c1
      go_upto_region 7 with (fail)
      go_cut [66] (fun u W => ∃ bad : Bool, u = .bool bad ∧ (∃ n, W = w1.drewN n) ∧ bad = !(rowB D (ga rows k) && (decide (k = 0) || lessB (ga rows (k - 1)).1 (ga rows k).1)))
      case first =>
        have kt := HK1.out.cell
        have kr := HR1.out.cell
        cases hv : viewOf (ga rows k).1 with
        | none =>
          rw [hv] at hres
          obtain rfl : pv1 = .pointer none := hres
          have HE : Hid (rowB D (ga rows k) = false) := Lib.hid (by simp [rowB, hv])
          clear hv
          go_quiet (fail)
          go_wp2_with fail
          go_meet
          exact ⟨true, rfl, ⟨_, rfl⟩, by rw [HE.out]; rfl⟩
        | some t =>
          rw [hv] at hres
          obtain ⟨q, rfl, ht⟩ := hres
          obtain ⟨kq0, kq4, -, -⟩ := ht.deg
          have hin := inB_or (ga rows k).2
          have HV : Hid (rowB D (ga rows k) = ((decide ((t.dep : Int) = D) || t.deg == 0) && inB (ga rows k).2 0 99)) := Lib.hid (by simp [rowB, hv])
          clear hv ht
          by_cases hbc : (t.dep : Int) ≠ D ∧ t.deg ≠ 0
          · obtain ⟨hd, hg⟩ := hbc
            have e1 : ((t.dep : Int) != D) = true := by simp [hd]
            have e2 : decide (0 < t.deg) = true := by simp; omega
            have HE : Hid (rowB D (ga rows k) = false) := Lib.hid (by rw [HV.out]; simp [hd, hg])
            clear hd hg HV hin
            go_quiet (fail)
            go_wp2_with fail
            go_meet
            exact ⟨true, rfl, ⟨_, rfl⟩, by rw [HE.out]; rfl⟩
          have HE : Hid (rowB D (ga rows k) = inB (ga rows k).2 0 99) := Lib.hid (by
            rw [HV.out]
            have : (decide ((t.dep : Int) = D) || t.deg == 0) = true := by
              simp only [Bool.or_eq_true, decide_eq_true_eq, beq_iff_eq]; omega
            rw [this, Bool.true_and])
          have HBC := Lib.hid hbc
          clear HV hbc
          by_cases hd : (t.dep : Int) = D
          all_goals
            try have e1 : ((t.dep : Int) != D) = false := by simp [hd]
            try have e1 : ((t.dep : Int) != D) = true := by simp [hd]
            try have e2 : decide (0 < t.deg) = false := by have := HBC.out; simp; omega
            clear hd HBC
            cases hb : inB (ga rows k).2 0 99 with
            | false =>
              have CV := Lib.hid (fun W => within_b (ga rows k).2 0 99 false W hb)
              have HE2 := Lib.hid (HE.out.trans hb)
              clear hb
              go_quiet ((go_at_call 49; exact quietQ (CV.out _)))
              go_wp2_with fail
              go_meet
              exact ⟨true, rfl, ⟨_, rfl⟩, by rw [HE2.out]; rfl⟩
            | true =>
              have CV := Lib.hid (fun W => within_b (ga rows k).2 0 99 true W hb)
              have HE2 := Lib.hid (HE.out.trans hb)
              clear hb
              by_cases hk0 : k = 0
              · have e3 : decide (0 < k) = false := by simp [hk0]
                have HZ := Lib.hid hk0
                clear hk0
                go_quiet ((go_at_call 49; exact quietQ (CV.out _)))
                go_wp2_with fail
                go_meet
                exact ⟨false, rfl, ⟨_, rfl⟩, by rw [HE2.out, HZ.out]; rfl⟩
              · have e3 : decide (0 < k) = true := by simp; omega
                have hcp := (HC.out (k - 1) (by omega)).1
                have cp : w1.cell? ⟨b, off + (k - 1) * 2, none⟩ = some (.string (ga rows (k - 1)).1) := (HB1.out.cell (p := ⟨b, off + (k - 1) * 2, none⟩) hbl).trans hcp
                have j0 : (0 : Int) ≤ (k : Int) - 1 := by omega
                have j1 : (k : Int) - 1 < (rows.length : Int) := by omega
                have hw : IntKind.i64.wrap ((k : Int) - 1) = (k : Int) - 1 := IntWalk.i64_in _ (by omega)
                have hn : ((k : Int) - 1).toNat = k - 1 := by omega
                have HZ := Lib.hid hk0
                clear hk0 hcp
                cases hs : lessB (ga rows (k - 1)).1 (ga rows k).1 with
                | true =>
                  have es : (!Op.bytesLess (ga rows (k - 1)).1.toList (ga rows k).1.toList) = false := by unfold lessB at hs; rw [hs]; rfl
                  have HS := Lib.hid hs
                  clear hs
                  go_quiet ((go_at_call 49; exact quietQ (CV.out _)))
                  go_wp2_with fail
                  go_meet
                  exact ⟨false, rfl, ⟨_, rfl⟩, by rw [HE2.out, HS.out]; simp⟩
                | false =>
                  have es : (!Op.bytesLess (ga rows (k - 1)).1.toList (ga rows k).1.toList) = true := by unfold lessB at hs; rw [hs]; rfl
                  have HS := Lib.hid hs
                  clear hs
                  go_quiet ((go_at_call 49; exact quietQ (CV.out _)))
                  go_wp2_with fail
                  go_meet
                  exact ⟨true, rfl, ⟨_, rfl⟩, by rw [HE2.out, HS.out]; simp [HZ.out]⟩
      case rest =>
      obtain ⟨bad, rfl, ⟨n, rfl⟩, hbad⟩ := hcut
      have HB2 := Lib.hid (below_drewN HB1.out n)
      have HK2 := Lib.hid (HK1.out.below (below_drewN (Below.refl _ _) n))
      have HBAD := Lib.hid hbad
      clear hbad HB1 HK1 HR1 hres
      cases bad
      · go_wp2_with fail
        go_roundw
        case rel =>
          refine ⟨k + 1, by omega, by go_num, fun j hj => ?_, HK2.out, HB2.out⟩
          by_cases h3 : j = k
          · subst h3
            have := HBAD.out
            simp at this
            exact ⟨this.1, fun h0 => this.2 (by omega)⟩
          · exact HJ.out j (by omega)
        case measure => simp [intOf]; omega
      · have HN : Hid (tabB D rows = false) := Lib.hid (by
          rw [← Bool.not_eq_true, tabB_iff]
          rintro ⟨-, -, t3, t4⟩
          have h4 := t3 k hlt
          have := HBAD.out
          rw [h4] at this
          by_cases h5 : k = 0
          · simp [h5] at this
          · have h6 := asc_iff.1 t4 (k - 1) (by omega)
            rw [show k - 1 + 1 = k by omega] at h6
            rw [h6] at this; simp at this)
        go_wp2_with fail
        go_ret
        exact ⟨by rw [HN.out]; rfl, HB2.out⟩
    · obtain rfl : k = rows.length := by omega
      have HN : Hid (tabB D rows = true) := Lib.hid (by
        simp only [tabB, HD.out, Bool.true_and, Bool.and_eq_true, decide_eq_true_eq]
        exact ⟨by omega, HJ.out⟩)
      go_wp2_with fail
      go_ret
      exact ⟨by rw [HN.out]; rfl, HB.out⟩
end Go.Proofs.YtjoimponfeofkaaGreat
