/- The types of this program, and that its functions may be called. Printed by gen_tab.py. -/
import Derived.Test.YtolpiolnhgpjjaaGreatCJn9
import Derived.Test.YtolpiolnhgpjjaaGreatProg
set_option linter.unusedSimpArgs false
set_option linter.unusedVariables false
namespace Go.Proofs.YtolpiolnhgpjjaaGreat
open Go Go.RowKit
theorem ce : bf Tryz.prog 3 = some ⟨false, 1, 8, [.int .i64 0], none, []⟩ := by kernel_rfl
theorem Xt : bf Tryz.prog 4 = some ⟨false, 1, 1, [.bool false], none, []⟩ := by kernel_rfl
theorem Wz : y7 Tryz.prog 4 = true := by kernel_rfl
theorem Gc : bf Tryz.prog 5 = some ⟨false, 1, 1, [.int .u8 0], none, []⟩ := by kernel_rfl
theorem ui : bf Tryz.prog 22 = some ⟨false, 1, 24, [.slice none 0 0], some 5, []⟩ := by kernel_rfl
theorem bl : bf Tryz.prog 24 = some ⟨false, 1, 24, [.slice none 0 0], some 103, []⟩ := by kernel_rfl
theorem bh : bf Tryz.prog 25 = some ⟨false, 1, 24, [.slice none 0 0], some 3, []⟩ := by kernel_rfl
theorem ap : bf Tryz.prog 27 = some ⟨true, 3, 72, [.slice none 0 0, .slice none 0 0, .slice none 0 0], none, [(0, 24), (1, 25), (2, 25)]⟩ := by kernel_rfl
theorem ew : bf Tryz.prog 49 = some ⟨false, 1, 24, [.slice none 0 0], some 25, []⟩ := by kernel_rfl
theorem Wc : bf Tryz.prog 68 = some ⟨false, 1, 8, [.int .u64 0], none, []⟩ := by kernel_rfl
theorem Wb : bf Tryz.prog 70 = some ⟨true, 3, 40, [.slice none 0 0, .int .i64 0, .int .u64 0], none, [(0, 22), (1, 3), (2, 68)]⟩ := by kernel_rfl
theorem iw : bf Tryz.prog 76 = some ⟨false, 1, 24, [.slice none 0 0], some 78, []⟩ := by kernel_rfl
theorem iv : bf Tryz.prog 78 = some ⟨true, 4, 32, [.int .i64 0, .int .i64 0, .int .i64 0, .int .i64 0], none, [(0, 3), (1, 3), (2, 3), (3, 3)]⟩ := by kernel_rfl
theorem Xr : bf Tryz.prog 93 = some ⟨false, 1, 24, [.slice none 0 0], some 4, []⟩ := by kernel_rfl
theorem az : bf Tryz.prog 103 = some ⟨false, 1, 24, [.slice none 0 0], some 111, []⟩ := by kernel_rfl
theorem be : bf Tryz.prog 111 = some ⟨true, 2, 16, [.int .i64 0, .int .i64 0], none, [(0, 3), (1, 3)]⟩ := by kernel_rfl
theorem Xj : aj Tryz.prog 7 = true := by kernel_rfl
theorem Sx : aj Tryz.prog 11 = true := by kernel_rfl
theorem Ws : aj Tryz.prog 46 = true := by kernel_rfl
theorem Sw : aj Tryz.prog 47 = true := by kernel_rfl
theorem Wr : aj Tryz.prog 48 = true := by kernel_rfl
theorem Wq : aj Tryz.prog 49 = true := by kernel_rfl
theorem Wp : aj Tryz.prog 50 = true := by kernel_rfl
theorem Wo : aj Tryz.prog 51 = true := by kernel_rfl
theorem I7 : aj Tryz.prog 52 = true := by kernel_rfl
theorem Sv : aj Tryz.prog 53 = true := by kernel_rfl
theorem At : aj Tryz.prog 55 = true := by kernel_rfl
theorem I6 : aj Tryz.prog 57 = true := by kernel_rfl
theorem Su : aj Tryz.prog 59 = true := by kernel_rfl
theorem I5 : aj Tryz.prog 60 = true := by kernel_rfl
theorem Wn : aj Tryz.prog 65 = true := by kernel_rfl
theorem As : aj Tryz.prog 66 = true := by kernel_rfl
theorem Wm : aj Tryz.prog 70 = true := by kernel_rfl
theorem fc : aj Tryz.prog 71 = true := by kernel_rfl
theorem yd : aj Tryz.prog 72 = true := by kernel_rfl
theorem I4 : aj Tryz.prog 73 = true := by kernel_rfl
theorem yc : aj Tryz.prog 75 = true := by kernel_rfl
theorem yb : aj Tryz.prog 76 = true := by kernel_rfl
theorem Wl : aj Tryz.prog 78 = true := by kernel_rfl
theorem Ny : aj Tryz.prog 85 = true := by kernel_rfl
theorem Oh : aj Tryz.prog 103 = true := by kernel_rfl
theorem Ue : aj Tryz.prog 104 = true := by kernel_rfl
theorem Ud : aj Tryz.prog 130 = true := by kernel_rfl
theorem fp : aj Tryz.prog 131 = true := by kernel_rfl
theorem ee : aj Tryz.prog 132 = true := by kernel_rfl
theorem G3 : aj Tryz.prog 133 = true := by kernel_rfl
theorem Uc : aj Tryz.prog 134 = true := by kernel_rfl
theorem Og : aj Tryz.prog 135 = true := by kernel_rfl
theorem Ub : aj Tryz.prog 136 = true := by kernel_rfl
theorem Of : aj Tryz.prog 137 = true := by kernel_rfl
theorem ma : aj Tryz.prog 138 = true := by kernel_rfl
theorem Ua : aj Tryz.prog 139 = true := by kernel_rfl
theorem T9 : aj Tryz.prog 140 = true := by kernel_rfl
theorem Oe : aj Tryz.prog 141 = true := by kernel_rfl
theorem T8 : aj Tryz.prog 142 = true := by kernel_rfl
theorem Od : aj Tryz.prog 152 = true := by kernel_rfl
theorem Cj : aj Tryz.prog 153 = true := by kernel_rfl
theorem Ci : aj Tryz.prog 159 = true := by kernel_rfl
theorem T7 : aj Tryz.prog 161 = true := by kernel_rfl
theorem T6 : aj Tryz.prog 162 = true := by kernel_rfl
theorem Oc : aj Tryz.prog 164 = true := by kernel_rfl
theorem Ob : aj Tryz.prog 165 = true := by kernel_rfl
theorem G2 : aj Tryz.prog 166 = true := by kernel_rfl
theorem l9 : aj Tryz.prog 178 = true := by kernel_rfl
theorem Oa : aj Tryz.prog 179 = true := by kernel_rfl
theorem N9 : aj Tryz.prog 181 = true := by kernel_rfl
theorem Ch : aj Tryz.prog 182 = true := by kernel_rfl
theorem N8 : aj Tryz.prog 183 = true := by kernel_rfl
theorem T5 : aj Tryz.prog 184 = true := by kernel_rfl
theorem T4 : aj Tryz.prog 185 = true := by kernel_rfl
theorem Cg : aj Tryz.prog 186 = true := by kernel_rfl
theorem tn : aj Tryz.prog 187 = true := by kernel_rfl
theorem N4 : aj Tryz.prog 188 = true := by kernel_rfl
theorem T3 : aj Tryz.prog 189 = true := by kernel_rfl
theorem Cf : aj Tryz.prog 190 = true := by kernel_rfl
theorem Ce : aj Tryz.prog 191 = true := by kernel_rfl
theorem T2 : aj Tryz.prog 196 = true := by kernel_rfl
theorem T1 : aj Tryz.prog 210 = true := by kernel_rfl
theorem N0 : aj Tryz.prog 211 = true := by kernel_rfl
theorem T0 : aj Tryz.prog 212 = true := by kernel_rfl
theorem Nz : aj Tryz.prog 213 = true := by kernel_rfl
theorem Tz : aj Tryz.prog 221 = true := by kernel_rfl
end Go.Proofs.YtolpiolnhgpjjaaGreat
