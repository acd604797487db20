/- The types of this program, and that its functions may be called. Printed by gen_tab.py. -/
import Derived.Test.YtdiiggpohcjppaaGreatCJn9
import Derived.Test.YtdiiggpohcjppaaGreatProg
set_option linter.unusedSimpArgs false
set_option linter.unusedVariables false
namespace Go.Proofs.YtdiiggpohcjppaaGreat
open Go Go.RowKit
theorem cl : bp Tryz.prog 3 = some ⟨false, 1, 8, [.int .i64 0], none, []⟩ := by kernel_rfl
theorem Zz : Bs Tryz.prog 4 = true := by kernel_rfl
theorem I5 : bp Tryz.prog 5 = some ⟨false, 1, 1, [.int .u8 0], none, []⟩ := by kernel_rfl
theorem zr : bp Tryz.prog 22 = some ⟨false, 1, 24, [.slice none 0 0], some 5, []⟩ := by kernel_rfl
theorem bm : bp Tryz.prog 24 = some ⟨false, 1, 24, [.slice none 0 0], some 82, []⟩ := by kernel_rfl
theorem bb : bp Tryz.prog 25 = some ⟨false, 1, 24, [.slice none 0 0], some 3, []⟩ := by kernel_rfl
theorem an : bp Tryz.prog 27 = some ⟨true, 3, 72, [.slice none 0 0, .slice none 0 0, .slice none 0 0], none, [(0, 24), (1, 25), (2, 25)]⟩ := by kernel_rfl
theorem bn : bp Tryz.prog 35 = some ⟨true, 2, 16, [.int .i64 0, .int .i64 0], none, [(0, 3), (1, 3)]⟩ := by kernel_rfl
theorem Vw : qx Tryz.prog 35 = some [0, 1] := by kernel_rfl
theorem bj : bp Tryz.prog 82 = some ⟨false, 1, 24, [.slice none 0 0], some 35, []⟩ := by kernel_rfl
theorem ew : bp Tryz.prog 91 = some ⟨false, 1, 24, [.slice none 0 0], some 25, []⟩ := by kernel_rfl
theorem lv : bp Tryz.prog 132 = some ⟨false, 1, 24, [.slice none 0 0], some 134, []⟩ := by kernel_rfl
theorem lu : bp Tryz.prog 134 = some ⟨true, 4, 32, [.int .i64 0, .int .i64 0, .int .i64 0, .int .i64 0], none, [(0, 3), (1, 3), (2, 3), (3, 3)]⟩ := by kernel_rfl
theorem jaj : aj Tryz.prog 6 = true := by kernel_rfl
theorem Dr : aj Tryz.prog 12 = true := by kernel_rfl
theorem Zr : aj Tryz.prog 15 = true := by kernel_rfl
theorem Zq : aj Tryz.prog 26 = true := by kernel_rfl
theorem Zp : aj Tryz.prog 27 = true := by kernel_rfl
theorem Zo : aj Tryz.prog 28 = true := by kernel_rfl
theorem Zn : aj Tryz.prog 29 = true := by kernel_rfl
theorem Zm : aj Tryz.prog 30 = true := by kernel_rfl
theorem Zl : aj Tryz.prog 31 = true := by kernel_rfl
theorem Zk : aj Tryz.prog 32 = true := by kernel_rfl
theorem Zj : aj Tryz.prog 33 = true := by kernel_rfl
theorem Zi : aj Tryz.prog 34 = true := by kernel_rfl
theorem Zh : aj Tryz.prog 35 = true := by kernel_rfl
theorem Vt : aj Tryz.prog 36 = true := by kernel_rfl
theorem Vs : aj Tryz.prog 37 = true := by kernel_rfl
theorem gd : aj Tryz.prog 52 = true := by kernel_rfl
theorem Dq : aj Tryz.prog 53 = true := by kernel_rfl
theorem Dp : aj Tryz.prog 54 = true := by kernel_rfl
theorem pg : aj Tryz.prog 55 = true := by kernel_rfl
theorem Rh : aj Tryz.prog 57 = true := by kernel_rfl
theorem L9 : aj Tryz.prog 58 = true := by kernel_rfl
theorem Zg : aj Tryz.prog 61 = true := by kernel_rfl
theorem j3 : aj Tryz.prog 65 = true := by kernel_rfl
theorem Rg : aj Tryz.prog 71 = true := by kernel_rfl
theorem Vr : aj Tryz.prog 76 = true := by kernel_rfl
theorem Zf : aj Tryz.prog 77 = true := by kernel_rfl
theorem mr : aj Tryz.prog 78 = true := by kernel_rfl
theorem Ze : aj Tryz.prog 79 = true := by kernel_rfl
theorem Rf : aj Tryz.prog 80 = true := by kernel_rfl
theorem Vq : aj Tryz.prog 81 = true := by kernel_rfl
theorem Vp : aj Tryz.prog 82 = true := by kernel_rfl
theorem Zd : aj Tryz.prog 83 = true := by kernel_rfl
theorem Bb : aj Tryz.prog 84 = true := by kernel_rfl
theorem Vo : aj Tryz.prog 85 = true := by kernel_rfl
theorem Re : aj Tryz.prog 86 = true := by kernel_rfl
theorem Zc : aj Tryz.prog 87 = true := by kernel_rfl
theorem Vn : aj Tryz.prog 88 = true := by kernel_rfl
theorem Vm : aj Tryz.prog 89 = true := by kernel_rfl
theorem Zb : aj Tryz.prog 90 = true := by kernel_rfl
theorem x7 : aj Tryz.prog 91 = true := by kernel_rfl
theorem Za : aj Tryz.prog 92 = true := by kernel_rfl
theorem Y9 : aj Tryz.prog 93 = true := by kernel_rfl
theorem L8 : aj Tryz.prog 94 = true := by kernel_rfl
theorem Y8 : aj Tryz.prog 95 = true := by kernel_rfl
theorem Vl : aj Tryz.prog 96 = true := by kernel_rfl
theorem pj : aj Tryz.prog 119 = true := by kernel_rfl
theorem J2 : aj Tryz.prog 120 = true := by kernel_rfl
theorem pi : aj Tryz.prog 121 = true := by kernel_rfl
theorem J1 : aj Tryz.prog 124 = true := by kernel_rfl
theorem J0 : aj Tryz.prog 125 = true := by kernel_rfl
theorem E7 : aj Tryz.prog 126 = true := by kernel_rfl
theorem W6 : aj Tryz.prog 127 = true := by kernel_rfl
theorem Rq : aj Tryz.prog 129 = true := by kernel_rfl
theorem Rp : aj Tryz.prog 130 = true := by kernel_rfl
theorem nu : aj Tryz.prog 131 = true := by kernel_rfl
theorem sm : aj Tryz.prog 132 = true := by kernel_rfl
theorem sk : aj Tryz.prog 133 = true := by kernel_rfl
theorem W5 : aj Tryz.prog 134 = true := by kernel_rfl
theorem E6 : aj Tryz.prog 135 = true := by kernel_rfl
theorem Ro : aj Tryz.prog 138 = true := by kernel_rfl
theorem Rn : aj Tryz.prog 139 = true := by kernel_rfl
theorem Rm : aj Tryz.prog 140 = true := by kernel_rfl
theorem wv : aj Tryz.prog 141 = true := by kernel_rfl
theorem W4 : aj Tryz.prog 142 = true := by kernel_rfl
theorem E5 : aj Tryz.prog 143 = true := by kernel_rfl
theorem E4 : aj Tryz.prog 144 = true := by kernel_rfl
theorem Rl : aj Tryz.prog 151 = true := by kernel_rfl
theorem Rj : aj Tryz.prog 170 = true := by kernel_rfl
theorem W3 : aj Tryz.prog 171 = true := by kernel_rfl
theorem W2 : aj Tryz.prog 172 = true := by kernel_rfl
theorem E3 : aj Tryz.prog 173 = true := by kernel_rfl
theorem ph : aj Tryz.prog 185 = true := by kernel_rfl
theorem W1 : aj Tryz.prog 186 = true := by kernel_rfl
theorem W0 : aj Tryz.prog 187 = true := by kernel_rfl
theorem wu : aj Tryz.prog 188 = true := by kernel_rfl
theorem Ri : aj Tryz.prog 189 = true := by kernel_rfl
theorem Jz : aj Tryz.prog 190 = true := by kernel_rfl
end Go.Proofs.YtdiiggpohcjppaaGreat
