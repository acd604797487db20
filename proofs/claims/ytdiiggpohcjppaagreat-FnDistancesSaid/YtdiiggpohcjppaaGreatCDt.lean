/- The types of this program, and that its functions may be called. Printed by gen_tab.py. -/
import Derived.Test.YtdiiggpohcjppaaGreatCJn12
import Derived.Test.YtdiiggpohcjppaaGreatProg
set_option linter.unusedSimpArgs false
set_option linter.unusedVariables false
namespace Go.Proofs.YtdiiggpohcjppaaGreat
open Go Go.RowKit
theorem tab3 : tabOf Tryz.prog 3 = some ⟨false, 1, 8, [.int .i64 0], none, []⟩ := by kernel_rfl
theorem bool4 : boolTy Tryz.prog 4 = true := by kernel_rfl
theorem tab5 : tabOf Tryz.prog 5 = some ⟨false, 1, 1, [.int .u8 0], none, []⟩ := by kernel_rfl
theorem tab22 : tabOf Tryz.prog 22 = some ⟨false, 1, 24, [.slice none 0 0], some 5, []⟩ := by kernel_rfl
theorem tab24 : tabOf Tryz.prog 24 = some ⟨false, 1, 24, [.slice none 0 0], some 82, []⟩ := by kernel_rfl
theorem tab25 : tabOf Tryz.prog 25 = some ⟨false, 1, 24, [.slice none 0 0], some 3, []⟩ := by kernel_rfl
theorem tab27 : tabOf Tryz.prog 27 = some ⟨true, 3, 72, [.slice none 0 0, .slice none 0 0, .slice none 0 0], none, [(0, 24), (1, 25), (2, 25)]⟩ := by kernel_rfl
theorem tab35 : tabOf Tryz.prog 35 = some ⟨true, 2, 16, [.int .i64 0, .int .i64 0], none, [(0, 3), (1, 3)]⟩ := by kernel_rfl
theorem tab74 : tabOf Tryz.prog 74 = some ⟨false, 1, 8, [.int .u64 0], none, []⟩ := by kernel_rfl
theorem tab76 : tabOf Tryz.prog 76 = some ⟨true, 3, 40, [.slice none 0 0, .int .i64 0, .int .u64 0], none, [(0, 22), (1, 3), (2, 74)]⟩ := by kernel_rfl
theorem tab82 : tabOf Tryz.prog 82 = some ⟨false, 1, 24, [.slice none 0 0], some 35, []⟩ := by kernel_rfl
theorem may6 : callOk Tryz.prog 6 = true := by kernel_rfl
theorem may7 : callOk Tryz.prog 7 = true := by kernel_rfl
theorem may8 : callOk Tryz.prog 8 = true := by kernel_rfl
theorem may9 : callOk Tryz.prog 9 = true := by kernel_rfl
theorem may10 : callOk Tryz.prog 10 = true := by kernel_rfl
theorem may11 : callOk Tryz.prog 11 = true := by kernel_rfl
theorem may12 : callOk Tryz.prog 12 = true := by kernel_rfl
theorem may13 : callOk Tryz.prog 13 = true := by kernel_rfl
theorem may14 : callOk Tryz.prog 14 = true := by kernel_rfl
theorem may15 : callOk Tryz.prog 15 = true := by kernel_rfl
theorem may16 : callOk Tryz.prog 16 = true := by kernel_rfl
theorem may17 : callOk Tryz.prog 17 = true := by kernel_rfl
theorem may18 : callOk Tryz.prog 18 = true := by kernel_rfl
theorem may19 : callOk Tryz.prog 19 = true := by kernel_rfl
theorem may20 : callOk Tryz.prog 20 = true := by kernel_rfl
theorem may21 : callOk Tryz.prog 21 = true := by kernel_rfl
theorem may22 : callOk Tryz.prog 22 = true := by kernel_rfl
theorem may23 : callOk Tryz.prog 23 = true := by kernel_rfl
theorem may24 : callOk Tryz.prog 24 = true := by kernel_rfl
theorem may25 : callOk Tryz.prog 25 = true := by kernel_rfl
theorem may51 : callOk Tryz.prog 51 = true := by kernel_rfl
theorem may52 : callOk Tryz.prog 52 = true := by kernel_rfl
theorem may53 : callOk Tryz.prog 53 = true := by kernel_rfl
theorem may54 : callOk Tryz.prog 54 = true := by kernel_rfl
theorem may55 : callOk Tryz.prog 55 = true := by kernel_rfl
theorem may56 : callOk Tryz.prog 56 = true := by kernel_rfl
theorem may57 : callOk Tryz.prog 57 = true := by kernel_rfl
theorem may58 : callOk Tryz.prog 58 = true := by kernel_rfl
theorem may59 : callOk Tryz.prog 59 = true := by kernel_rfl
theorem may60 : callOk Tryz.prog 60 = true := by kernel_rfl
theorem may61 : callOk Tryz.prog 61 = true := by kernel_rfl
theorem may62 : callOk Tryz.prog 62 = true := by kernel_rfl
theorem may63 : callOk Tryz.prog 63 = true := by kernel_rfl
theorem may65 : callOk Tryz.prog 65 = true := by kernel_rfl
theorem may66 : callOk Tryz.prog 66 = true := by kernel_rfl
theorem may67 : callOk Tryz.prog 67 = true := by kernel_rfl
theorem may68 : callOk Tryz.prog 68 = true := by kernel_rfl
theorem may69 : callOk Tryz.prog 69 = true := by kernel_rfl
theorem may70 : callOk Tryz.prog 70 = true := by kernel_rfl
theorem may71 : callOk Tryz.prog 71 = true := by kernel_rfl
theorem may72 : callOk Tryz.prog 72 = true := by kernel_rfl
theorem may73 : callOk Tryz.prog 73 = true := by kernel_rfl
theorem may75 : callOk Tryz.prog 75 = true := by kernel_rfl
theorem may76 : callOk Tryz.prog 76 = true := by kernel_rfl
theorem may78 : callOk Tryz.prog 78 = true := by kernel_rfl
theorem may96 : callOk Tryz.prog 96 = true := by kernel_rfl
theorem may100 : callOk Tryz.prog 100 = true := by kernel_rfl
theorem may119 : callOk Tryz.prog 119 = true := by kernel_rfl
theorem may120 : callOk Tryz.prog 120 = true := by kernel_rfl
theorem may121 : callOk Tryz.prog 121 = true := by kernel_rfl
theorem may123 : callOk Tryz.prog 123 = true := by kernel_rfl
theorem may124 : callOk Tryz.prog 124 = true := by kernel_rfl
theorem may125 : callOk Tryz.prog 125 = true := by kernel_rfl
theorem may126 : callOk Tryz.prog 126 = true := by kernel_rfl
theorem may127 : callOk Tryz.prog 127 = true := by kernel_rfl
theorem may140 : callOk Tryz.prog 140 = true := by kernel_rfl
theorem may141 : callOk Tryz.prog 141 = true := by kernel_rfl
theorem may142 : callOk Tryz.prog 142 = true := by kernel_rfl
theorem may143 : callOk Tryz.prog 143 = true := by kernel_rfl
theorem may144 : callOk Tryz.prog 144 = true := by kernel_rfl
theorem may151 : callOk Tryz.prog 151 = true := by kernel_rfl
theorem may170 : callOk Tryz.prog 170 = true := by kernel_rfl
theorem may171 : callOk Tryz.prog 171 = true := by kernel_rfl
theorem may188 : callOk Tryz.prog 188 = true := by kernel_rfl
theorem may189 : callOk Tryz.prog 189 = true := by kernel_rfl
theorem may190 : callOk Tryz.prog 190 = true := by kernel_rfl
end Go.Proofs.YtdiiggpohcjppaaGreat
