/- The types of this program, and that its functions may be called. Printed by gen_tab.py. -/
import Derived.Test.YtolpiolnhgpjjaaGreatCJn10
import Derived.Test.YtolpiolnhgpjjaaGreatProg
set_option linter.unusedSimpArgs false
set_option linter.unusedVariables false
namespace Go.Proofs.YtolpiolnhgpjjaaGreat
open Go Go.RowKit
theorem bh : b7 Tryz.prog 3 = some ⟨false, 1, 8, [.int .i64 0], none, []⟩ := by kernel_rfl
theorem Y0 : Cl Tryz.prog 4 = true := by kernel_rfl
theorem Jp : b7 Tryz.prog 5 = some ⟨false, 1, 1, [.int .u8 0], none, []⟩ := by kernel_rfl
theorem vx : b7 Tryz.prog 22 = some ⟨false, 1, 24, [.slice none 0 0], some 5, []⟩ := by kernel_rfl
theorem a6 : b7 Tryz.prog 24 = some ⟨false, 1, 24, [.slice none 0 0], some 103, []⟩ := by kernel_rfl
theorem aq : b7 Tryz.prog 25 = some ⟨false, 1, 24, [.slice none 0 0], some 3, []⟩ := by kernel_rfl
theorem an : b7 Tryz.prog 27 = some ⟨true, 3, 72, [.slice none 0 0, .slice none 0 0, .slice none 0 0], none, [(0, 24), (1, 25), (2, 25)]⟩ := by kernel_rfl
theorem dh : b7 Tryz.prog 49 = some ⟨false, 1, 24, [.slice none 0 0], some 25, []⟩ := by kernel_rfl
theorem U2 : b7 Tryz.prog 68 = some ⟨false, 1, 8, [.int .u64 0], none, []⟩ := by kernel_rfl
theorem U1 : b7 Tryz.prog 70 = some ⟨true, 3, 40, [.slice none 0 0, .int .i64 0, .int .u64 0], none, [(0, 22), (1, 3), (2, 68)]⟩ := by kernel_rfl
theorem c9 : b7 Tryz.prog 76 = some ⟨false, 1, 24, [.slice none 0 0], some 78, []⟩ := by kernel_rfl
theorem cz : b7 Tryz.prog 78 = some ⟨true, 4, 32, [.int .i64 0, .int .i64 0, .int .i64 0, .int .i64 0], none, [(0, 3), (1, 3), (2, 3), (3, 3)]⟩ := by kernel_rfl
theorem am : b7 Tryz.prog 103 = some ⟨false, 1, 24, [.slice none 0 0], some 111, []⟩ := by kernel_rfl
theorem aw : b7 Tryz.prog 111 = some ⟨true, 2, 16, [.int .i64 0, .int .i64 0], none, [(0, 3), (1, 3)]⟩ := by kernel_rfl
theorem Zm : ak Tryz.prog 7 = true := by kernel_rfl
theorem Zl : ak Tryz.prog 8 = true := by kernel_rfl
theorem Zk : ak Tryz.prog 9 = true := by kernel_rfl
theorem Yu : ak Tryz.prog 10 = true := by kernel_rfl
theorem Ro : ak Tryz.prog 11 = true := by kernel_rfl
theorem Yt : ak Tryz.prog 12 = true := by kernel_rfl
theorem Rn : ak Tryz.prog 13 = true := by kernel_rfl
theorem Ys : ak Tryz.prog 14 = true := by kernel_rfl
theorem Yr : ak Tryz.prog 15 = true := by kernel_rfl
theorem Yq : ak Tryz.prog 16 = true := by kernel_rfl
theorem Yp : ak Tryz.prog 17 = true := by kernel_rfl
theorem Yo : ak Tryz.prog 18 = true := by kernel_rfl
theorem Yn : ak Tryz.prog 19 = true := by kernel_rfl
theorem Ym : ak Tryz.prog 54 = true := by kernel_rfl
theorem tr : ak Tryz.prog 55 = true := by kernel_rfl
theorem Yl : ak Tryz.prog 56 = true := by kernel_rfl
theorem qw : ak Tryz.prog 57 = true := by kernel_rfl
theorem y6 : ak Tryz.prog 58 = true := by kernel_rfl
theorem y5 : ak Tryz.prog 59 = true := by kernel_rfl
theorem ms : ak Tryz.prog 60 = true := by kernel_rfl
theorem Rg : ak Tryz.prog 61 = true := by kernel_rfl
theorem tq : ak Tryz.prog 62 = true := by kernel_rfl
theorem Vd : ak Tryz.prog 63 = true := by kernel_rfl
theorem kl : ak Tryz.prog 64 = true := by kernel_rfl
theorem Vc : ak Tryz.prog 65 = true := by kernel_rfl
theorem dt : ak Tryz.prog 66 = true := by kernel_rfl
theorem qv : ak Tryz.prog 67 = true := by kernel_rfl
theorem ld : ak Tryz.prog 68 = true := by kernel_rfl
theorem Vb : ak Tryz.prog 69 = true := by kernel_rfl
theorem Rf : ak Tryz.prog 70 = true := by kernel_rfl
theorem gv : ak Tryz.prog 71 = true := by kernel_rfl
theorem pw : ak Tryz.prog 72 = true := by kernel_rfl
theorem D2 : ak Tryz.prog 73 = true := by kernel_rfl
theorem Mu : ak Tryz.prog 74 = true := by kernel_rfl
theorem iu : ak Tryz.prog 75 = true := by kernel_rfl
theorem it : ak Tryz.prog 76 = true := by kernel_rfl
theorem Va : ak Tryz.prog 77 = true := by kernel_rfl
theorem Yk : ak Tryz.prog 78 = true := by kernel_rfl
theorem Yj : ak Tryz.prog 79 = true := by kernel_rfl
theorem lc : ak Tryz.prog 81 = true := by kernel_rfl
theorem Mt : ak Tryz.prog 82 = true := by kernel_rfl
theorem Yi : ak Tryz.prog 83 = true := by kernel_rfl
theorem U9 : ak Tryz.prog 84 = true := by kernel_rfl
theorem Ic : ak Tryz.prog 85 = true := by kernel_rfl
theorem U8 : ak Tryz.prog 86 = true := by kernel_rfl
theorem Yh : ak Tryz.prog 87 = true := by kernel_rfl
theorem Yg : ak Tryz.prog 88 = true := by kernel_rfl
theorem Yf : ak Tryz.prog 92 = true := by kernel_rfl
theorem Ms : ak Tryz.prog 94 = true := by kernel_rfl
theorem wu : ak Tryz.prog 96 = true := by kernel_rfl
theorem Ye : ak Tryz.prog 98 = true := by kernel_rfl
theorem qx : ak Tryz.prog 118 = true := by kernel_rfl
theorem Fr : ak Tryz.prog 140 = true := by kernel_rfl
theorem Bw : ak Tryz.prog 141 = true := by kernel_rfl
theorem Fq : ak Tryz.prog 142 = true := by kernel_rfl
theorem kx : ak Tryz.prog 146 = true := by kernel_rfl
theorem Wm : ak Tryz.prog 147 = true := by kernel_rfl
theorem Km : ak Tryz.prog 148 = true := by kernel_rfl
theorem Wl : ak Tryz.prog 149 = true := by kernel_rfl
theorem Wk : ak Tryz.prog 151 = true := by kernel_rfl
theorem Rm : ak Tryz.prog 152 = true := by kernel_rfl
theorem Fp : ak Tryz.prog 153 = true := by kernel_rfl
theorem Wj : ak Tryz.prog 154 = true := by kernel_rfl
theorem Wi : ak Tryz.prog 155 = true := by kernel_rfl
theorem Wh : ak Tryz.prog 156 = true := by kernel_rfl
theorem Wg : ak Tryz.prog 158 = true := by kernel_rfl
theorem Fo : ak Tryz.prog 159 = true := by kernel_rfl
theorem Wf : ak Tryz.prog 161 = true := by kernel_rfl
theorem We : ak Tryz.prog 162 = true := by kernel_rfl
theorem Rl : ak Tryz.prog 163 = true := by kernel_rfl
theorem Rk : ak Tryz.prog 164 = true := by kernel_rfl
theorem Rj : ak Tryz.prog 165 = true := by kernel_rfl
theorem Kl : ak Tryz.prog 166 = true := by kernel_rfl
theorem xz : ak Tryz.prog 178 = true := by kernel_rfl
theorem xy : ak Tryz.prog 187 = true := by kernel_rfl
theorem Ri : ak Tryz.prog 188 = true := by kernel_rfl
theorem Wd : ak Tryz.prog 189 = true := by kernel_rfl
theorem Fn : ak Tryz.prog 190 = true := by kernel_rfl
theorem Fm : ak Tryz.prog 191 = true := by kernel_rfl
theorem Fl : ak Tryz.prog 193 = true := by kernel_rfl
theorem Wc : ak Tryz.prog 196 = true := by kernel_rfl
theorem Wb : ak Tryz.prog 197 = true := by kernel_rfl
theorem Rh : ak Tryz.prog 213 = true := by kernel_rfl
end Go.Proofs.YtolpiolnhgpjjaaGreat
