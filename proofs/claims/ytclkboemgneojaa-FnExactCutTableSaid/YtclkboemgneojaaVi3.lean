/- The program's reader of views: the statement that takes up a part. -/
import Derived.Test.YtclkboemgneojaaVi2
import Derived.Test.YtclkboemgneojaaReg
import Derived.Test.YtclkboemgneojaaPh
import Derived.Deep.RegionHeld3
namespace Go.Proofs.Ytclkboemgneojaa
open Go.RowKit

def HoldsAt (p : Nat) (vp vt : Value) (W : World) : Prop := W.cell? ⟨p, 2, none⟩ = some vp ∧ W.cell? ⟨p, 3, none⟩ = some vt
theorem HoldsAt.of {TR TN TP : TypeId} {w wr : World} {gr p : Nat} {rd : Array Value} {d i dp : Int} {vp0 vt0 vp vt : Value} {ps qs rs : List Nat} {ts : List VT} (h : NodeSt TR TN TP w gr p rd d i dp vp0 vt0 vp vt ps qs rs ts wr) : HoldsAt p vp0 vt0 wr :=
  ⟨by rw [h.node.cell]; rfl, by rw [h.node.cell]; rfl⟩

theorem Blk.kept {W w1 : World} {g : Nat} {t : TypeId} {cs : Array Value} {row : Option Nat} (h : Blk W g t cs) (hg : W.grownBy w1 row) (hne : some g ≠ row) : Blk w1 g t cs := (hg.block g h.lt hne).trans h

noncomputable def viR20 : Code := (Try.f129.body.bind (regOf 20)).getD .skip
set_option maxRecDepth 100000 in
set_option maxHeartbeats 4000000 in
theorem viReg20 {w : World} {gr p : Nat} {s : ByteArray} {a d i : Nat} {vp vt : Value} {ps qs : List Nat} {ts : List VT} {t : VT} {j q : Nat} {w9 : World} (hs : ViSt w gr p s (a : Nat) d i 0 vp vt vp vt ps qs (qs ++ [q]) (ts ++ [t]) w9) (hpl : ps.length ≤ 100) (hql : qs.length ≤ 100) (Q : Exit → Act → World → Prop)
    (u0 u1 u2 u4 u7 u8 u9 u10 u11 u12 u13 u14 u15 u16 u17 u18 u19 u20 u21 u22 u23 u24 u25 u26 u27 u28 u29 u30 u31 u32 u33 u34 u35 u36 u37 u38 u39 u40 u41 u42 u43 u44 u45 u46 u47 u48 u49 u50 u51 u52 u53 u54 u55 u56 u57 u58 u59 u60 u61 u62 u63 u64 u65 u66 u67 u68 u69 u70 u71 u72 u73 u74 u75 u76 u77 u78 u79 u80 u81 u82 u83 u84 u85 u86 u87 u88 u89 u90 u91 u92 u93 u94 u95 u96 u97 u98 u99 u100 u101 u102 u103 u104 u105 u106 u107 u108 u109 u110 u111 u112 u113 u114 u115 u116 u117 u118 u119 u120 u121 u122 u123 u124 u125 u126 u127 u128 u129 u130 u131 u132 u133 u134 u135 u136 u137 u138 u139 u140 u141 : Value)
    (h : ∀ vp' vt' W, ViSt w gr p s (a : Nat) d i 0 vp' vt' vp' vt' (ps ++ [j]) (qs ++ [q]) (qs ++ [q]) (ts ++ [t]) W → ∀ v97 v98 v99 v100 v101 v102 v103 v104 v105 v106 v107 v108 v109 v110 v111 v112 v113 v114 v115 v116, Q .normal ⟨#[u0, u1, u2, .pointer (some ⟨p, 0, none⟩), u4, .int .i64 (j : Nat), .pointer (some ⟨q, 0, none⟩), u7, u8, u9, u10, u11, u12, u13, u14, u15, u16, u17, u18, u19, u20, u21, u22, u23, u24, u25, u26, u27, u28, u29, u30, u31, u32, u33, u34, u35, u36, u37, u38, u39, u40, u41, u42, u43, u44, u45, u46, u47, u48, u49, u50, u51, u52, u53, u54, u55, u56, u57, u58, u59, u60, u61, u62, u63, u64, u65, u66, u67, u68, u69, u70, u71, u72, u73, u74, u75, u76, u77, u78, u79, u80, u81, u82, u83, u84, u85, u86, u87, u88, u89, u90, u91, u92, u93, u94, u95, u96, v97, v98, v99, v100, v101, v102, v103, v104, v105, v106, v107, v108, v109, v110, v111, v112, v113, v114, v115, v116, u117, u118, u119, u120, u121, u122, u123, u124, u125, u126, u127, u128, u129, u130, u131, u132, u133, u134, u135, u136, u137, u138, u139, u140, u141], []⟩ W) :
    Code.wp Try.prog viR20 Q ⟨#[u0, u1, u2, .pointer (some ⟨p, 0, none⟩), u4, .int .i64 (j : Nat), .pointer (some ⟨q, 0, none⟩), u7, u8, u9, u10, u11, u12, u13, u14, u15, u16, u17, u18, u19, u20, u21, u22, u23, u24, u25, u26, u27, u28, u29, u30, u31, u32, u33, u34, u35, u36, u37, u38, u39, u40, u41, u42, u43, u44, u45, u46, u47, u48, u49, u50, u51, u52, u53, u54, u55, u56, u57, u58, u59, u60, u61, u62, u63, u64, u65, u66, u67, u68, u69, u70, u71, u72, u73, u74, u75, u76, u77, u78, u79, u80, u81, u82, u83, u84, u85, u86, u87, u88, u89, u90, u91, u92, u93, u94, u95, u96, u97, u98, u99, u100, u101, u102, u103, u104, u105, u106, u107, u108, u109, u110, u111, u112, u113, u114, u115, u116, u117, u118, u119, u120, u121, u122, u123, u124, u125, u126, u127, u128, u129, u130, u131, u132, u133, u134, u135, u136, u137, u138, u139, u140, u141], []⟩ w9 := by
  have HS9 := Lib.hid hs
  have HH := Lib.hid h
  clear hs h
  conv => arg 2; whnf
  refine wp_region_noPanic ?_
  refine wp_region_any (by kernel_rfl) ?_
  simp only [List.size_toArray, List.length_cons, List.length_nil, Array.replicate, List.replicate]
  refine wpAny_take (i := 0) (oi := _) (v := ?_) rfl (by kernel_rfl) (by kernel_rfl) (by kernel_rfl) (fun _ _ _ h => h) (Or.inl ⟨by rfl, ?_⟩) ?_
  case refine_2 => intro w0; go_simp; with_reducible rfl
  try simp only [Act.put, List.setIfInBounds_toArray, List.set_cons_zero, List.set_cons_succ]
  refine wpAny_take (i := 1) (oi := _) (v := ?_) rfl (by kernel_rfl) (by kernel_rfl) (by kernel_rfl) (fun _ _ _ h => h) (Or.inl ⟨by rfl, ?_⟩) ?_
  case refine_2 => intro w0; go_simp; with_reducible rfl
  try simp only [Act.put, List.setIfInBounds_toArray, List.set_cons_zero, List.set_cons_succ]
  refine wpAny_take (i := 2) (oi := _) (v := ?_) rfl (by kernel_rfl) (by kernel_rfl) (by kernel_rfl) (fun _ _ _ h => h) (Or.inl ⟨by rfl, ?_⟩) ?_
  case refine_2 => intro w0; go_simp; with_reducible rfl
  try simp only [Act.put, List.setIfInBounds_toArray, List.set_cons_zero, List.set_cons_succ]
  refine wpAny_take (i := 3) (oi := _) (v := ?_) rfl (by kernel_rfl) (by kernel_rfl) (by kernel_rfl) (fun _ _ _ h => h) (Or.inl ⟨by rfl, ?_⟩) ?_
  case refine_2 => intro w0; go_simp; with_reducible rfl
  try simp only [Act.put, List.setIfInBounds_toArray, List.set_cons_zero, List.set_cons_succ]
  refine wpAny_take (i := 4) (oi := _) (v := ?_) rfl (by kernel_rfl) (by kernel_rfl) (by kernel_rfl) (fun _ _ _ h => h) (Or.inl ⟨by rfl, ?_⟩) ?_
  case refine_2 => intro w0; go_simp; with_reducible rfl
  try simp only [Act.put, List.setIfInBounds_toArray, List.set_cons_zero, List.set_cons_succ]
  refine wpAny_take (i := 6) (oi := _) (v := ?_) rfl (by kernel_rfl) (by kernel_rfl) (by kernel_rfl) (fun _ _ _ h => h) (Or.inl ⟨by rfl, ?_⟩) ?_
  case refine_2 => intro w0; go_simp; with_reducible rfl
  try simp only [Act.put, List.setIfInBounds_toArray, List.set_cons_zero, List.set_cons_succ]
  refine wpAny_take (i := 9) (oi := _) (v := ?_) rfl (by kernel_rfl) (by kernel_rfl) (by kernel_rfl) (fun _ _ _ h => h) (Or.inl ⟨by rfl, ?_⟩) ?_
  case refine_2 => intro w0; go_simp; with_reducible rfl
  try simp only [Act.put, List.setIfInBounds_toArray, List.set_cons_zero, List.set_cons_succ]
  refine wpAny_take (i := 10) (oi := _) (v := ?_) rfl (by kernel_rfl) (by kernel_rfl) (by kernel_rfl) (fun _ _ _ h => h) (Or.inl ⟨by rfl, ?_⟩) ?_
  case refine_2 => intro w0; go_simp; with_reducible rfl
  try simp only [Act.put, List.setIfInBounds_toArray, List.set_cons_zero, List.set_cons_succ]
  refine wpAny_take (i := 11) (oi := _) (v := ?_) rfl (by kernel_rfl) (by kernel_rfl) (by kernel_rfl) (fun _ _ _ h => h) (Or.inl ⟨by rfl, ?_⟩) ?_
  case refine_2 => intro w0; go_simp; with_reducible rfl
  try simp only [Act.put, List.setIfInBounds_toArray, List.set_cons_zero, List.set_cons_succ]
  refine wpAny_take (i := 13) (oi := _) (v := ?_) rfl (by kernel_rfl) (by kernel_rfl) (by kernel_rfl) (fun _ _ _ h => h) (Or.inl ⟨by rfl, ?_⟩) ?_
  case refine_2 => intro w0; go_simp; with_reducible rfl
  try simp only [Act.put, List.setIfInBounds_toArray, List.set_cons_zero, List.set_cons_succ]
  have hS9 : HoldsAt p vp vt w9.drew := HoldsAt.of (NodeSt.drew_ HS9.out)
  refine wpAny_of_P (S := fun W => W.cell? ⟨p, 2, none⟩ = some vp ∧ W.cell? ⟨p, 3, none⟩ = some vt) (n1 := 16) _ _ _ _ ?_
  refine wpAnyP_take (i := 5) (oi := _) (v := ?_) rfl (by kernel_rfl) (by kernel_rfl) (by kernel_rfl) (by omega) (by kernel_rfl) (fun _ _ _ h => h) (Or.inl ⟨by rfl, ?_⟩) hS9 ?_
  case refine_2 => intro w0 hS0; obtain ⟨h0, h1⟩ := hS0; go_simp; with_reducible rfl
  try simp only [Act.put, List.setIfInBounds_toArray, List.set_cons_zero, List.set_cons_succ]
  refine wpAnyP_take (i := 12) (oi := _) (v := ?_) rfl (by kernel_rfl) (by kernel_rfl) (by kernel_rfl) (by omega) (by kernel_rfl) (fun _ _ _ h => h) (Or.inl ⟨by rfl, ?_⟩) hS9 ?_
  case refine_2 => intro w0 hS0; obtain ⟨h0, h1⟩ := hS0; go_simp; with_reducible rfl
  try simp only [Act.put, List.setIfInBounds_toArray, List.set_cons_zero, List.set_cons_succ]
  refine wpAnyP_ready (rs := [7, 14]) (by kernel_rfl) (by simp) (by kernel_rfl) (AllReadyP.cons (o := _) rfl (fun K hK => ?_) (AllReadyP.cons (o := _) rfl (fun K hK => ?_) AllReadyP.nil))
  ·
    go_simp
    refine hK.out _ _ (HoldsAt.of (by repeat first | exact HS9.out | apply NodeSt.alloc_ | apply NodeSt.drew_)) (fun _ => ?_)
    clear hK K
    try simp only [Act.put, List.setIfInBounds_toArray, List.set_cons_zero, List.set_cons_succ]
    refine wpAnyP_ready (rs := [8, 14]) (by kernel_rfl) (by simp) (by kernel_rfl) (AllReadyP.cons (o := _) rfl (fun K hK => ?_) (AllReadyP.cons (o := _) rfl (fun K hK => ?_) AllReadyP.nil))
    ·
      refine step_append_intsL (S := fun _ => True) _ rfl (.tmp 102) (.tmp 104) rfl w.heap.size vp (zs ps) (by simp [go_sem]) (show ViSt w gr p s (a : Nat) d i 0 vp vt vp vt ps qs (qs ++ [q]) (ts ++ [t]) _ from by repeat first | exact HS9.out | apply NodeSt.alloc_ | apply NodeSt.drew_).own1 _ [(j : Int)] rfl (IntsR.oneAt (by repeat first | exact Blk.newAt (by simp) | apply Blk.drew_ | apply Blk.alloc)) (by simp [zs]; omega) (show ViSt w gr p s (a : Nat) d i 0 vp vt vp vt ps qs (qs ++ [q]) (ts ++ [t]) _ from by repeat first | exact HS9.out | apply NodeSt.alloc_ | apply NodeSt.drew_).grw.size ?_
      intro A1 c1 w1 ho hg hl
      have HSA := Lib.hid ((show ViSt w gr p s (a : Nat) d i 0 vp vt vp vt ps qs (qs ++ [q]) (ts ++ [t]) _ from by repeat first | exact HS9.out | apply NodeSt.alloc_ | apply NodeSt.drew_).app1 ho hg hl)
      refine hK.out _ _ (HoldsAt.of HSA.out) (fun _ => ?_)
      clear hK K ho hg hl
      try simp only [Act.put, List.setIfInBounds_toArray, List.set_cons_zero, List.set_cons_succ]
      refine wpAnyP_ready (rs := [14]) (by kernel_rfl) (by simp) (by kernel_rfl) (AllReadyP.cons (o := _) rfl (fun K hK => ?_) AllReadyP.nil)
      go_simp
      refine hK.out _ _ (HoldsAt.of (by repeat first | exact HSA.out | apply NodeSt.alloc_ | apply NodeSt.drew_)) (fun _ => ?_)
      clear hK K
      try simp only [Act.put, List.setIfInBounds_toArray, List.set_cons_zero, List.set_cons_succ]
      refine wpAnyP_ready (rs := [15]) (by kernel_rfl) (by simp) (by kernel_rfl) (AllReadyP.cons (o := _) rfl (fun K hK => ?_) AllReadyP.nil)
      refine step_append_G ptrT (S := fun _ => True) _ rfl (.tmp 109) (.tmp 111) rfl w.heap.size vt qs (by simp [go_sem]) (show ViSt w gr p s (a : Nat) d i 0 vp vt _ vt (ps ++ [j]) qs (qs ++ [q]) (ts ++ [t]) _ from by repeat first | exact HSA.out | apply NodeSt.alloc_ | apply NodeSt.drew_).own2 _ [q] rfl (SlR.oneP (by repeat first | exact Blk.newAt (by simp) | apply Blk.drew_ | apply Blk.alloc)) (by simp; omega) (show ViSt w gr p s (a : Nat) d i 0 vp vt _ vt (ps ++ [j]) qs (qs ++ [q]) (ts ++ [t]) _ from by repeat first | exact HSA.out | apply NodeSt.alloc_ | apply NodeSt.drew_).grw.size ?_
      intro A2 c2 w2 ho hg hl
      have HSB := Lib.hid ((show ViSt w gr p s (a : Nat) d i 0 vp vt _ vt (ps ++ [j]) qs (qs ++ [q]) (ts ++ [t]) _ from by repeat first | exact HSA.out | apply NodeSt.alloc_ | apply NodeSt.drew_).app2 ho hg hl)
      refine hK.out _ _ (HoldsAt.of HSB.out) (fun _ => ?_)
      clear hK K ho hg hl
      try simp only [Act.put, List.setIfInBounds_toArray, List.set_cons_zero, List.set_cons_succ]
      refine wpAnyP_go (by kernel_rfl) ?_
      refine wpAny_take (i := 16) (oi := _) (v := ?_) rfl (by kernel_rfl) (by kernel_rfl) (by kernel_rfl) (fun _ _ _ h => h) (Or.inl ⟨by rfl, ?_⟩) ?_
      case refine_2 => intro w0; go_simp; with_reducible rfl
      try simp only [Act.put, List.setIfInBounds_toArray, List.set_cons_zero, List.set_cons_succ]
      refine wpAny_take (i := 17) (oi := _) (v := ?_) rfl (by kernel_rfl) (by kernel_rfl) (by kernel_rfl) (fun _ _ _ h => h) (Or.inl ⟨by rfl, ?_⟩) ?_
      case refine_2 => intro w0; go_simp; with_reducible rfl
      try simp only [Act.put, List.setIfInBounds_toArray, List.set_cons_zero, List.set_cons_succ]
      have k2 := HSB.out.node.cell
      have f2 := HSB.out.node.free
      refine wpAny_of_P (S := fun _ => True) (n1 := 22) _ _ _ _ ?_
      refine wpAnyP_ready (rs := [18]) (by kernel_rfl) (by simp) (by kernel_rfl) (AllReadyP.cons (o := _) rfl (fun K hK => ?_) AllReadyP.nil)
      go_simp
      refine hK.out _ _ trivial (fun _ => ?_)
      clear hK K
      try simp only [Act.put, List.setIfInBounds_toArray, List.set_cons_zero, List.set_cons_succ]
      refine wpAnyP_take (i := 19) (oi := _) (v := ?_) rfl (by kernel_rfl) (by kernel_rfl) (by kernel_rfl) (by omega) (by kernel_rfl) (fun _ _ _ h => h) (Or.inl ⟨by rfl, ?_⟩) trivial ?_
      case refine_2 => intro w0 _; go_simp; with_reducible rfl
      try simp only [Act.put, List.setIfInBounds_toArray, List.set_cons_zero, List.set_cons_succ]
      refine wpAnyP_take (i := 20) (oi := _) (v := ?_) rfl (by kernel_rfl) (by kernel_rfl) (by kernel_rfl) (by omega) (by kernel_rfl) (fun _ _ _ h => h) (Or.inl ⟨by rfl, ?_⟩) trivial ?_
      case refine_2 => intro w0 _; go_simp; with_reducible rfl
      try simp only [Act.put, List.setIfInBounds_toArray, List.set_cons_zero, List.set_cons_succ]
      refine wpAnyP_ready (rs := [21]) (by kernel_rfl) (by simp) (by kernel_rfl) (AllReadyP.cons (o := _) rfl (fun K hK => ?_) AllReadyP.nil)
      go_simp
      refine hK.out _ _ trivial (fun _ => ?_)
      clear hK K
      try simp only [Act.put, List.setIfInBounds_toArray, List.set_cons_zero, List.set_cons_succ]
      refine wpAnyP_go (by kernel_rfl) (wpAny_done (by kernel_rfl) ?_ _)
      exact NoPanic.normal (HH.out _ _ _ HSB.out.put23 _ _ _ _ _ _ _ _ _ _ _ _ _ _ _ _ _ _ _ _)
    ·
      go_simp
      refine hK.out _ _ (HoldsAt.of (by repeat first | exact HS9.out | apply NodeSt.alloc_ | apply NodeSt.drew_)) (fun _ => ?_)
      clear hK K
      try simp only [Act.put, List.setIfInBounds_toArray, List.set_cons_zero, List.set_cons_succ]
      refine wpAnyP_ready (rs := [8]) (by kernel_rfl) (by simp) (by kernel_rfl) (AllReadyP.cons (o := _) rfl (fun K hK => ?_) AllReadyP.nil)
      refine step_append_intsL (S := fun _ => True) _ rfl (.tmp 102) (.tmp 104) rfl w.heap.size vp (zs ps) (by simp [go_sem]) (show ViSt w gr p s (a : Nat) d i 0 vp vt vp vt ps qs (qs ++ [q]) (ts ++ [t]) _ from by repeat first | exact HS9.out | apply NodeSt.alloc_ | apply NodeSt.drew_).own1 _ [(j : Int)] rfl (IntsR.oneAt (by repeat first | exact Blk.newAt (by simp) | apply Blk.drew_ | apply Blk.alloc)) (by simp [zs]; omega) (show ViSt w gr p s (a : Nat) d i 0 vp vt vp vt ps qs (qs ++ [q]) (ts ++ [t]) _ from by repeat first | exact HS9.out | apply NodeSt.alloc_ | apply NodeSt.drew_).grw.size ?_
      intro A1 c1 w1 ho hg hl
      have HSA := Lib.hid ((show ViSt w gr p s (a : Nat) d i 0 vp vt vp vt ps qs (qs ++ [q]) (ts ++ [t]) _ from by repeat first | exact HS9.out | apply NodeSt.alloc_ | apply NodeSt.drew_).app1 ho hg hl)
      have HK2 := Lib.hid (Blk.kept (W := ((w9.alloc (.cells #[.int .i64 (j : Nat)] 3)).alloc (.cells #[.pointer (some ⟨q, 0, none⟩)] 91)).drew) (g := w9.heap.size + 1) (t := 91) (cs := #[.pointer (some ⟨q, 0, none⟩)]) (by repeat first | exact Blk.newAt (by simp) | apply Blk.drew_ | apply Blk.alloc) hg (fun e => by have := (HS9.out.own1.blk _ e.symm).2; omega))
      refine hK.out _ _ (HoldsAt.of HSA.out) (fun _ => ?_)
      clear hK K ho hg hl
      try simp only [Act.put, List.setIfInBounds_toArray, List.set_cons_zero, List.set_cons_succ]
      refine wpAnyP_ready (rs := [15]) (by kernel_rfl) (by simp) (by kernel_rfl) (AllReadyP.cons (o := _) rfl (fun K hK => ?_) AllReadyP.nil)
      refine step_append_G ptrT (S := fun _ => True) _ rfl (.tmp 109) (.tmp 111) rfl w.heap.size vt qs (by simp [go_sem]) (show ViSt w gr p s (a : Nat) d i 0 vp vt _ vt (ps ++ [j]) qs (qs ++ [q]) (ts ++ [t]) _ from by repeat first | exact HSA.out | apply NodeSt.alloc_ | apply NodeSt.drew_).own2 _ [q] rfl (SlR.oneP HK2.out) (by simp; omega) (show ViSt w gr p s (a : Nat) d i 0 vp vt _ vt (ps ++ [j]) qs (qs ++ [q]) (ts ++ [t]) _ from by repeat first | exact HSA.out | apply NodeSt.alloc_ | apply NodeSt.drew_).grw.size ?_
      intro A2 c2 w2 ho hg hl
      have HSB := Lib.hid ((show ViSt w gr p s (a : Nat) d i 0 vp vt _ vt (ps ++ [j]) qs (qs ++ [q]) (ts ++ [t]) _ from by repeat first | exact HSA.out | apply NodeSt.alloc_ | apply NodeSt.drew_).app2 ho hg hl)
      refine hK.out _ _ (HoldsAt.of HSB.out) (fun _ => ?_)
      clear hK K ho hg hl
      try simp only [Act.put, List.setIfInBounds_toArray, List.set_cons_zero, List.set_cons_succ]
      refine wpAnyP_go (by kernel_rfl) ?_
      refine wpAny_take (i := 16) (oi := _) (v := ?_) rfl (by kernel_rfl) (by kernel_rfl) (by kernel_rfl) (fun _ _ _ h => h) (Or.inl ⟨by rfl, ?_⟩) ?_
      case refine_2 => intro w0; go_simp; with_reducible rfl
      try simp only [Act.put, List.setIfInBounds_toArray, List.set_cons_zero, List.set_cons_succ]
      refine wpAny_take (i := 17) (oi := _) (v := ?_) rfl (by kernel_rfl) (by kernel_rfl) (by kernel_rfl) (fun _ _ _ h => h) (Or.inl ⟨by rfl, ?_⟩) ?_
      case refine_2 => intro w0; go_simp; with_reducible rfl
      try simp only [Act.put, List.setIfInBounds_toArray, List.set_cons_zero, List.set_cons_succ]
      have k2 := HSB.out.node.cell
      have f2 := HSB.out.node.free
      refine wpAny_of_P (S := fun _ => True) (n1 := 22) _ _ _ _ ?_
      refine wpAnyP_ready (rs := [18]) (by kernel_rfl) (by simp) (by kernel_rfl) (AllReadyP.cons (o := _) rfl (fun K hK => ?_) AllReadyP.nil)
      go_simp
      refine hK.out _ _ trivial (fun _ => ?_)
      clear hK K
      try simp only [Act.put, List.setIfInBounds_toArray, List.set_cons_zero, List.set_cons_succ]
      refine wpAnyP_take (i := 19) (oi := _) (v := ?_) rfl (by kernel_rfl) (by kernel_rfl) (by kernel_rfl) (by omega) (by kernel_rfl) (fun _ _ _ h => h) (Or.inl ⟨by rfl, ?_⟩) trivial ?_
      case refine_2 => intro w0 _; go_simp; with_reducible rfl
      try simp only [Act.put, List.setIfInBounds_toArray, List.set_cons_zero, List.set_cons_succ]
      refine wpAnyP_take (i := 20) (oi := _) (v := ?_) rfl (by kernel_rfl) (by kernel_rfl) (by kernel_rfl) (by omega) (by kernel_rfl) (fun _ _ _ h => h) (Or.inl ⟨by rfl, ?_⟩) trivial ?_
      case refine_2 => intro w0 _; go_simp; with_reducible rfl
      try simp only [Act.put, List.setIfInBounds_toArray, List.set_cons_zero, List.set_cons_succ]
      refine wpAnyP_ready (rs := [21]) (by kernel_rfl) (by simp) (by kernel_rfl) (AllReadyP.cons (o := _) rfl (fun K hK => ?_) AllReadyP.nil)
      go_simp
      refine hK.out _ _ trivial (fun _ => ?_)
      clear hK K
      try simp only [Act.put, List.setIfInBounds_toArray, List.set_cons_zero, List.set_cons_succ]
      refine wpAnyP_go (by kernel_rfl) (wpAny_done (by kernel_rfl) ?_ _)
      exact NoPanic.normal (HH.out _ _ _ HSB.out.put23 _ _ _ _ _ _ _ _ _ _ _ _ _ _ _ _ _ _ _ _)
  ·
    go_simp
    refine hK.out _ _ (HoldsAt.of (by repeat first | exact HS9.out | apply NodeSt.alloc_ | apply NodeSt.drew_)) (fun _ => ?_)
    clear hK K
    try simp only [Act.put, List.setIfInBounds_toArray, List.set_cons_zero, List.set_cons_succ]
    refine wpAnyP_ready (rs := [7]) (by kernel_rfl) (by simp) (by kernel_rfl) (AllReadyP.cons (o := _) rfl (fun K hK => ?_) AllReadyP.nil)
    go_simp
    refine hK.out _ _ (HoldsAt.of (by repeat first | exact HS9.out | apply NodeSt.alloc_ | apply NodeSt.drew_)) (fun _ => ?_)
    clear hK K
    try simp only [Act.put, List.setIfInBounds_toArray, List.set_cons_zero, List.set_cons_succ]
    refine wpAnyP_ready (rs := [8]) (by kernel_rfl) (by simp) (by kernel_rfl) (AllReadyP.cons (o := _) rfl (fun K hK => ?_) AllReadyP.nil)
    refine step_append_intsL (S := fun _ => True) _ rfl (.tmp 102) (.tmp 104) rfl w.heap.size vp (zs ps) (by simp [go_sem]) (show ViSt w gr p s (a : Nat) d i 0 vp vt vp vt ps qs (qs ++ [q]) (ts ++ [t]) _ from by repeat first | exact HS9.out | apply NodeSt.alloc_ | apply NodeSt.drew_).own1 _ [(j : Int)] rfl (IntsR.oneAt (by repeat first | exact Blk.newAt (by simp) | apply Blk.drew_ | apply Blk.alloc)) (by simp [zs]; omega) (show ViSt w gr p s (a : Nat) d i 0 vp vt vp vt ps qs (qs ++ [q]) (ts ++ [t]) _ from by repeat first | exact HS9.out | apply NodeSt.alloc_ | apply NodeSt.drew_).grw.size ?_
    intro A1 c1 w1 ho hg hl
    have HSA := Lib.hid ((show ViSt w gr p s (a : Nat) d i 0 vp vt vp vt ps qs (qs ++ [q]) (ts ++ [t]) _ from by repeat first | exact HS9.out | apply NodeSt.alloc_ | apply NodeSt.drew_).app1 ho hg hl)
    have HK2 := Lib.hid (Blk.kept (W := ((w9.alloc (.cells #[.pointer (some ⟨q, 0, none⟩)] 91)).alloc (.cells #[.int .i64 (j : Nat)] 3)).drew) (g := w9.heap.size) (t := 91) (cs := #[.pointer (some ⟨q, 0, none⟩)]) (by repeat first | exact Blk.newAt (by simp) | apply Blk.drew_ | apply Blk.alloc) hg (fun e => by have := (HS9.out.own1.blk _ e.symm).2; omega))
    refine hK.out _ _ (HoldsAt.of HSA.out) (fun _ => ?_)
    clear hK K ho hg hl
    try simp only [Act.put, List.setIfInBounds_toArray, List.set_cons_zero, List.set_cons_succ]
    refine wpAnyP_ready (rs := [15]) (by kernel_rfl) (by simp) (by kernel_rfl) (AllReadyP.cons (o := _) rfl (fun K hK => ?_) AllReadyP.nil)
    refine step_append_G ptrT (S := fun _ => True) _ rfl (.tmp 109) (.tmp 111) rfl w.heap.size vt qs (by simp [go_sem]) (show ViSt w gr p s (a : Nat) d i 0 vp vt _ vt (ps ++ [j]) qs (qs ++ [q]) (ts ++ [t]) _ from by repeat first | exact HSA.out | apply NodeSt.alloc_ | apply NodeSt.drew_).own2 _ [q] rfl (SlR.oneP HK2.out) (by simp; omega) (show ViSt w gr p s (a : Nat) d i 0 vp vt _ vt (ps ++ [j]) qs (qs ++ [q]) (ts ++ [t]) _ from by repeat first | exact HSA.out | apply NodeSt.alloc_ | apply NodeSt.drew_).grw.size ?_
    intro A2 c2 w2 ho hg hl
    have HSB := Lib.hid ((show ViSt w gr p s (a : Nat) d i 0 vp vt _ vt (ps ++ [j]) qs (qs ++ [q]) (ts ++ [t]) _ from by repeat first | exact HSA.out | apply NodeSt.alloc_ | apply NodeSt.drew_).app2 ho hg hl)
    refine hK.out _ _ (HoldsAt.of HSB.out) (fun _ => ?_)
    clear hK K ho hg hl
    try simp only [Act.put, List.setIfInBounds_toArray, List.set_cons_zero, List.set_cons_succ]
    refine wpAnyP_go (by kernel_rfl) ?_
    refine wpAny_take (i := 16) (oi := _) (v := ?_) rfl (by kernel_rfl) (by kernel_rfl) (by kernel_rfl) (fun _ _ _ h => h) (Or.inl ⟨by rfl, ?_⟩) ?_
    case refine_2 => intro w0; go_simp; with_reducible rfl
    try simp only [Act.put, List.setIfInBounds_toArray, List.set_cons_zero, List.set_cons_succ]
    refine wpAny_take (i := 17) (oi := _) (v := ?_) rfl (by kernel_rfl) (by kernel_rfl) (by kernel_rfl) (fun _ _ _ h => h) (Or.inl ⟨by rfl, ?_⟩) ?_
    case refine_2 => intro w0; go_simp; with_reducible rfl
    try simp only [Act.put, List.setIfInBounds_toArray, List.set_cons_zero, List.set_cons_succ]
    have k2 := HSB.out.node.cell
    have f2 := HSB.out.node.free
    refine wpAny_of_P (S := fun _ => True) (n1 := 22) _ _ _ _ ?_
    refine wpAnyP_ready (rs := [18]) (by kernel_rfl) (by simp) (by kernel_rfl) (AllReadyP.cons (o := _) rfl (fun K hK => ?_) AllReadyP.nil)
    go_simp
    refine hK.out _ _ trivial (fun _ => ?_)
    clear hK K
    try simp only [Act.put, List.setIfInBounds_toArray, List.set_cons_zero, List.set_cons_succ]
    refine wpAnyP_take (i := 19) (oi := _) (v := ?_) rfl (by kernel_rfl) (by kernel_rfl) (by kernel_rfl) (by omega) (by kernel_rfl) (fun _ _ _ h => h) (Or.inl ⟨by rfl, ?_⟩) trivial ?_
    case refine_2 => intro w0 _; go_simp; with_reducible rfl
    try simp only [Act.put, List.setIfInBounds_toArray, List.set_cons_zero, List.set_cons_succ]
    refine wpAnyP_take (i := 20) (oi := _) (v := ?_) rfl (by kernel_rfl) (by kernel_rfl) (by kernel_rfl) (by omega) (by kernel_rfl) (fun _ _ _ h => h) (Or.inl ⟨by rfl, ?_⟩) trivial ?_
    case refine_2 => intro w0 _; go_simp; with_reducible rfl
    try simp only [Act.put, List.setIfInBounds_toArray, List.set_cons_zero, List.set_cons_succ]
    refine wpAnyP_ready (rs := [21]) (by kernel_rfl) (by simp) (by kernel_rfl) (AllReadyP.cons (o := _) rfl (fun K hK => ?_) AllReadyP.nil)
    go_simp
    refine hK.out _ _ trivial (fun _ => ?_)
    clear hK K
    try simp only [Act.put, List.setIfInBounds_toArray, List.set_cons_zero, List.set_cons_succ]
    refine wpAnyP_go (by kernel_rfl) (wpAny_done (by kernel_rfl) ?_ _)
    exact NoPanic.normal (HH.out _ _ _ HSB.out.put23 _ _ _ _ _ _ _ _ _ _ _ _ _ _ _ _ _ _ _ _)
end Go.Proofs.Ytclkboemgneojaa
