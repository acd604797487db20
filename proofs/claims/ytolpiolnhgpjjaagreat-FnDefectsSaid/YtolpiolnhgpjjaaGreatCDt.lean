/- The types of this program, and that its functions may be called. Printed by gen_tab.py. -/
import Derived.Test.YtolpiolnhgpjjaaGreatCJn10
import Derived.Test.YtolpiolnhgpjjaaGreatProg
set_option linter.unusedSimpArgs false
set_option linter.unusedVariables false
namespace Go.Proofs.YtolpiolnhgpjjaaGreat
open Go Go.RowKit
theorem cr : be Tryz.prog 3 = some ⟨false, 1, 8, [.int .i64 0], none, []⟩ := by kernel_rfl
theorem T3 : x8 Tryz.prog 4 = true := by kernel_rfl
theorem Ey : be Tryz.prog 5 = some ⟨false, 1, 1, [.int .u8 0], none, []⟩ := by kernel_rfl
theorem n9 : be Tryz.prog 22 = some ⟨false, 1, 24, [.slice none 0 0], some 5, []⟩ := by kernel_rfl
theorem b6 : be Tryz.prog 24 = some ⟨false, 1, 24, [.slice none 0 0], some 103, []⟩ := by kernel_rfl
theorem bp : be Tryz.prog 25 = some ⟨false, 1, 24, [.slice none 0 0], some 3, []⟩ := by kernel_rfl
theorem aq : be Tryz.prog 27 = some ⟨true, 3, 72, [.slice none 0 0, .slice none 0 0, .slice none 0 0], none, [(0, 24), (1, 25), (2, 25)]⟩ := by kernel_rfl
theorem P6 : be Tryz.prog 49 = some ⟨false, 1, 24, [.slice none 0 0], some 25, []⟩ := by kernel_rfl
theorem K0 : be Tryz.prog 68 = some ⟨false, 1, 8, [.int .u64 0], none, []⟩ := by kernel_rfl
theorem Kz : be Tryz.prog 70 = some ⟨true, 3, 40, [.slice none 0 0, .int .i64 0, .int .u64 0], none, [(0, 22), (1, 3), (2, 68)]⟩ := by kernel_rfl
theorem fg : be Tryz.prog 76 = some ⟨false, 1, 24, [.slice none 0 0], some 78, []⟩ := by kernel_rfl
theorem ff : be Tryz.prog 78 = some ⟨true, 4, 32, [.int .i64 0, .int .i64 0, .int .i64 0, .int .i64 0], none, [(0, 3), (1, 3), (2, 3), (3, 3)]⟩ := by kernel_rfl
theorem bl : be Tryz.prog 103 = some ⟨false, 1, 24, [.slice none 0 0], some 111, []⟩ := by kernel_rfl
theorem bt : be Tryz.prog 111 = some ⟨true, 2, 16, [.int .i64 0, .int .i64 0], none, [(0, 3), (1, 3)]⟩ := by kernel_rfl
theorem Ul : ak Tryz.prog 7 = true := by kernel_rfl
theorem Tv : ak Tryz.prog 11 = true := by kernel_rfl
theorem Tu : ak Tryz.prog 33 = true := by kernel_rfl
theorem Tt : ak Tryz.prog 34 = true := by kernel_rfl
theorem Qe : ak Tryz.prog 35 = true := by kernel_rfl
theorem Ts : ak Tryz.prog 36 = true := by kernel_rfl
theorem Tr : ak Tryz.prog 37 = true := by kernel_rfl
theorem Lx : ak Tryz.prog 38 = true := by kernel_rfl
theorem Lw : ak Tryz.prog 39 = true := by kernel_rfl
theorem Tq : ak Tryz.prog 40 = true := by kernel_rfl
theorem Tp : ak Tryz.prog 41 = true := by kernel_rfl
theorem To : ak Tryz.prog 42 = true := by kernel_rfl
theorem Tn : ak Tryz.prog 43 = true := by kernel_rfl
theorem Tm : ak Tryz.prog 44 = true := by kernel_rfl
theorem Tl : ak Tryz.prog 45 = true := by kernel_rfl
theorem jc : ak Tryz.prog 55 = true := by kernel_rfl
theorem od : ak Tryz.prog 57 = true := by kernel_rfl
theorem zr : ak Tryz.prog 59 = true := by kernel_rfl
theorem zq : ak Tryz.prog 60 = true := by kernel_rfl
theorem Qd : ak Tryz.prog 63 = true := by kernel_rfl
theorem Qc : ak Tryz.prog 70 = true := by kernel_rfl
theorem dt : ak Tryz.prog 71 = true := by kernel_rfl
theorem mi : ak Tryz.prog 72 = true := by kernel_rfl
theorem oc : ak Tryz.prog 73 = true := by kernel_rfl
theorem ki : ak Tryz.prog 74 = true := by kernel_rfl
theorem gw : ak Tryz.prog 75 = true := by kernel_rfl
theorem ge : ak Tryz.prog 76 = true := by kernel_rfl
theorem xb : ak Tryz.prog 78 = true := by kernel_rfl
theorem Lv : ak Tryz.prog 85 = true := by kernel_rfl
theorem Qb : ak Tryz.prog 89 = true := by kernel_rfl
theorem w9 : ak Tryz.prog 92 = true := by kernel_rfl
theorem Hp : ak Tryz.prog 94 = true := by kernel_rfl
theorem w6 : ak Tryz.prog 98 = true := by kernel_rfl
theorem Md : ak Tryz.prog 102 = true := by kernel_rfl
theorem Rj : ak Tryz.prog 110 = true := by kernel_rfl
theorem Mc : ak Tryz.prog 113 = true := by kernel_rfl
theorem Mb : ak Tryz.prog 116 = true := by kernel_rfl
theorem sd : ak Tryz.prog 117 = true := by kernel_rfl
theorem jd : ak Tryz.prog 118 = true := by kernel_rfl
theorem Ri : ak Tryz.prog 119 = true := by kernel_rfl
theorem xd : ak Tryz.prog 120 = true := by kernel_rfl
theorem Rh : ak Tryz.prog 121 = true := by kernel_rfl
theorem sc : ak Tryz.prog 122 = true := by kernel_rfl
theorem Ma : ak Tryz.prog 123 = true := by kernel_rfl
theorem xc : ak Tryz.prog 124 = true := by kernel_rfl
theorem Rg : ak Tryz.prog 125 = true := by kernel_rfl
theorem L9 : ak Tryz.prog 126 = true := by kernel_rfl
theorem L8 : ak Tryz.prog 127 = true := by kernel_rfl
theorem L7 : ak Tryz.prog 128 = true := by kernel_rfl
theorem L6 : ak Tryz.prog 129 = true := by kernel_rfl
theorem Rf : ak Tryz.prog 140 = true := by kernel_rfl
theorem L5 : ak Tryz.prog 141 = true := by kernel_rfl
theorem L4 : ak Tryz.prog 142 = true := by kernel_rfl
theorem L3 : ak Tryz.prog 151 = true := by kernel_rfl
theorem Re : ak Tryz.prog 158 = true := by kernel_rfl
theorem Bn : ak Tryz.prog 159 = true := by kernel_rfl
theorem Bm : ak Tryz.prog 164 = true := by kernel_rfl
theorem Bl : ak Tryz.prog 165 = true := by kernel_rfl
theorem Bk : ak Tryz.prog 166 = true := by kernel_rfl
theorem Rd : ak Tryz.prog 171 = true := by kernel_rfl
theorem Rc : ak Tryz.prog 175 = true := by kernel_rfl
theorem L2 : ak Tryz.prog 176 = true := by kernel_rfl
theorem Rb : ak Tryz.prog 177 = true := by kernel_rfl
theorem o7 : ak Tryz.prog 178 = true := by kernel_rfl
theorem sa : ak Tryz.prog 187 = true := by kernel_rfl
theorem Lz : ak Tryz.prog 188 = true := by kernel_rfl
theorem Ra : ak Tryz.prog 189 = true := by kernel_rfl
theorem Bj : ak Tryz.prog 190 = true := by kernel_rfl
theorem Bi : ak Tryz.prog 191 = true := by kernel_rfl
theorem Ly : ak Tryz.prog 213 = true := by kernel_rfl
end Go.Proofs.YtolpiolnhgpjjaaGreat
