/- The types of this program, and that its functions may be called. Printed by gen_tab.py. -/
import Derived.Test.YtolpiolnhgpjjaaGreatCJn10
import Derived.Test.YtolpiolnhgpjjaaGreatProg
set_option linter.unusedSimpArgs false
set_option linter.unusedVariables false
namespace Go.Proofs.YtolpiolnhgpjjaaGreat
open Go Go.RowKit
theorem b9 : bv Tryz.prog 3 = some ⟨false, 1, 8, [.int .i64 0], none, []⟩ := by kernel_rfl
theorem r9 : bv Tryz.prog 4 = some ⟨false, 1, 1, [.bool false], none, []⟩ := by kernel_rfl
theorem X7 : zw Tryz.prog 4 = true := by kernel_rfl
theorem Hc : bv Tryz.prog 5 = some ⟨false, 1, 1, [.int .u8 0], none, []⟩ := by kernel_rfl
theorem vq : bv Tryz.prog 22 = some ⟨false, 1, 24, [.slice none 0 0], some 5, []⟩ := by kernel_rfl
theorem bg : bv Tryz.prog 24 = some ⟨false, 1, 24, [.slice none 0 0], some 103, []⟩ := by kernel_rfl
theorem bc : bv Tryz.prog 25 = some ⟨false, 1, 24, [.slice none 0 0], some 3, []⟩ := by kernel_rfl
theorem ap : bv Tryz.prog 27 = some ⟨true, 3, 72, [.slice none 0 0, .slice none 0 0, .slice none 0 0], none, [(0, 24), (1, 25), (2, 25)]⟩ := by kernel_rfl
theorem dw : bv Tryz.prog 49 = some ⟨false, 1, 24, [.slice none 0 0], some 25, []⟩ := by kernel_rfl
theorem W8 : bv Tryz.prog 68 = some ⟨false, 1, 8, [.int .u64 0], none, []⟩ := by kernel_rfl
theorem W7 : bv Tryz.prog 70 = some ⟨true, 3, 40, [.slice none 0 0, .int .i64 0, .int .u64 0], none, [(0, 22), (1, 3), (2, 68)]⟩ := by kernel_rfl
theorem W6 : bv Tryz.prog 76 = some ⟨false, 1, 24, [.slice none 0 0], some 78, []⟩ := by kernel_rfl
theorem W5 : bv Tryz.prog 78 = some ⟨true, 4, 32, [.int .i64 0, .int .i64 0, .int .i64 0, .int .i64 0], none, [(0, 3), (1, 3), (2, 3), (3, 3)]⟩ := by kernel_rfl
theorem kc : bv Tryz.prog 93 = some ⟨false, 1, 24, [.slice none 0 0], some 4, []⟩ := by kernel_rfl
theorem ay : bv Tryz.prog 103 = some ⟨false, 1, 24, [.slice none 0 0], some 111, []⟩ := by kernel_rfl
theorem ca : bv Tryz.prog 111 = some ⟨true, 2, 16, [.int .i64 0, .int .i64 0], none, [(0, 3), (1, 3)]⟩ := by kernel_rfl
theorem Yr : aj Tryz.prog 7 = true := by kernel_rfl
theorem Pq : aj Tryz.prog 11 = true := by kernel_rfl
theorem Xz : aj Tryz.prog 20 = true := by kernel_rfl
theorem Xy : aj Tryz.prog 21 = true := by kernel_rfl
theorem Xx : aj Tryz.prog 22 = true := by kernel_rfl
theorem Xw : aj Tryz.prog 23 = true := by kernel_rfl
theorem Xv : aj Tryz.prog 24 = true := by kernel_rfl
theorem Xu : aj Tryz.prog 25 = true := by kernel_rfl
theorem Xt : aj Tryz.prog 26 = true := by kernel_rfl
theorem Xs : aj Tryz.prog 27 = true := by kernel_rfl
theorem Xr : aj Tryz.prog 28 = true := by kernel_rfl
theorem Xq : aj Tryz.prog 29 = true := by kernel_rfl
theorem Xp : aj Tryz.prog 30 = true := by kernel_rfl
theorem Xo : aj Tryz.prog 31 = true := by kernel_rfl
theorem Tz : aj Tryz.prog 32 = true := by kernel_rfl
theorem mt : aj Tryz.prog 55 = true := by kernel_rfl
theorem Bu : aj Tryz.prog 57 = true := by kernel_rfl
theorem Pe : aj Tryz.prog 59 = true := by kernel_rfl
theorem Ty : aj Tryz.prog 60 = true := by kernel_rfl
theorem Tx : aj Tryz.prog 61 = true := by kernel_rfl
theorem Kg : aj Tryz.prog 63 = true := by kernel_rfl
theorem Fk : aj Tryz.prog 65 = true := by kernel_rfl
theorem f6 : aj Tryz.prog 66 = true := by kernel_rfl
theorem Bt : aj Tryz.prog 68 = true := by kernel_rfl
theorem Xn : aj Tryz.prog 70 = true := by kernel_rfl
theorem f5 : aj Tryz.prog 71 = true := by kernel_rfl
theorem we : aj Tryz.prog 72 = true := by kernel_rfl
theorem v8 : aj Tryz.prog 73 = true := by kernel_rfl
theorem qf : aj Tryz.prog 78 = true := by kernel_rfl
theorem Kf : aj Tryz.prog 85 = true := by kernel_rfl
theorem Tw : aj Tryz.prog 89 = true := by kernel_rfl
theorem Tv : aj Tryz.prog 90 = true := by kernel_rfl
theorem Ke : aj Tryz.prog 91 = true := by kernel_rfl
theorem f9 : aj Tryz.prog 92 = true := by kernel_rfl
theorem Pd : aj Tryz.prog 93 = true := by kernel_rfl
theorem nt : aj Tryz.prog 94 = true := by kernel_rfl
theorem Xm : aj Tryz.prog 95 = true := by kernel_rfl
theorem Xl : aj Tryz.prog 96 = true := by kernel_rfl
theorem Kd : aj Tryz.prog 97 = true := by kernel_rfl
theorem qe : aj Tryz.prog 98 = true := by kernel_rfl
theorem Xk : aj Tryz.prog 99 = true := by kernel_rfl
theorem Pw : aj Tryz.prog 100 = true := by kernel_rfl
theorem Pv : aj Tryz.prog 101 = true := by kernel_rfl
theorem Pu : aj Tryz.prog 102 = true := by kernel_rfl
theorem Pt : aj Tryz.prog 103 = true := by kernel_rfl
theorem U9 : aj Tryz.prog 104 = true := by kernel_rfl
theorem Ps : aj Tryz.prog 105 = true := by kernel_rfl
theorem Pr : aj Tryz.prog 106 = true := by kernel_rfl
theorem U8 : aj Tryz.prog 107 = true := by kernel_rfl
theorem U7 : aj Tryz.prog 108 = true := by kernel_rfl
theorem un : aj Tryz.prog 109 = true := by kernel_rfl
theorem Pp : aj Tryz.prog 110 = true := by kernel_rfl
theorem If : aj Tryz.prog 111 = true := by kernel_rfl
theorem De : aj Tryz.prog 112 = true := by kernel_rfl
theorem Po : aj Tryz.prog 113 = true := by kernel_rfl
theorem Ie : aj Tryz.prog 114 = true := by kernel_rfl
theorem Pn : aj Tryz.prog 115 = true := by kernel_rfl
theorem Dd : aj Tryz.prog 118 = true := by kernel_rfl
theorem nu : aj Tryz.prog 132 = true := by kernel_rfl
theorem U6 : aj Tryz.prog 140 = true := by kernel_rfl
theorem Pm : aj Tryz.prog 141 = true := by kernel_rfl
theorem Pk : aj Tryz.prog 142 = true := by kernel_rfl
theorem Dc : aj Tryz.prog 146 = true := by kernel_rfl
theorem Pj : aj Tryz.prog 152 = true := by kernel_rfl
theorem Db : aj Tryz.prog 153 = true := by kernel_rfl
theorem U5 : aj Tryz.prog 155 = true := by kernel_rfl
theorem Id : aj Tryz.prog 164 = true := by kernel_rfl
theorem Ic : aj Tryz.prog 165 = true := by kernel_rfl
theorem Da : aj Tryz.prog 166 = true := by kernel_rfl
theorem Pi : aj Tryz.prog 169 = true := by kernel_rfl
theorem C9 : aj Tryz.prog 170 = true := by kernel_rfl
theorem U4 : aj Tryz.prog 171 = true := by kernel_rfl
theorem U3 : aj Tryz.prog 172 = true := by kernel_rfl
theorem C8 : aj Tryz.prog 173 = true := by kernel_rfl
theorem Ph : aj Tryz.prog 174 = true := by kernel_rfl
theorem qz : aj Tryz.prog 178 = true := by kernel_rfl
theorem um : aj Tryz.prog 187 = true := by kernel_rfl
theorem Pg : aj Tryz.prog 188 = true := by kernel_rfl
theorem U2 : aj Tryz.prog 189 = true := by kernel_rfl
theorem C7 : aj Tryz.prog 190 = true := by kernel_rfl
theorem C6 : aj Tryz.prog 191 = true := by kernel_rfl
theorem C5 : aj Tryz.prog 193 = true := by kernel_rfl
theorem Pf : aj Tryz.prog 213 = true := by kernel_rfl
end Go.Proofs.YtolpiolnhgpjjaaGreat
