/- The types of this program, and that its functions may be called. Printed by gen_tab.py. -/
import Derived.Test.YtlaahgdikiiahaaGreatCJn11
import Derived.Test.YtlaahgdikiiahaaGreatProg
set_option linter.unusedSimpArgs false
set_option linter.unusedVariables false
namespace Go.Proofs.YtlaahgdikiiahaaGreat
open Go Go.RowKit
theorem tab3 : tabOf Tryz.prog 3 = some ⟨false, 1, 8, [.int .i64 0], none, []⟩ := by kernel_rfl
theorem bool4 : boolTy Tryz.prog 4 = true := by kernel_rfl
theorem tab5 : tabOf Tryz.prog 5 = some ⟨false, 1, 1, [.int .u8 0], none, []⟩ := by kernel_rfl
theorem tab22 : tabOf Tryz.prog 22 = some ⟨false, 1, 24, [.slice none 0 0], some 5, []⟩ := by kernel_rfl
theorem tab24 : tabOf Tryz.prog 24 = some ⟨false, 1, 24, [.slice none 0 0], some 67, []⟩ := by kernel_rfl
theorem tab25 : tabOf Tryz.prog 25 = some ⟨false, 1, 24, [.slice none 0 0], some 3, []⟩ := by kernel_rfl
theorem tab27 : tabOf Tryz.prog 27 = some ⟨true, 3, 72, [.slice none 0 0, .slice none 0 0, .slice none 0 0], none, [(0, 24), (1, 25), (2, 25)]⟩ := by kernel_rfl
theorem tab67 : tabOf Tryz.prog 67 = some ⟨false, 1, 24, [.slice none 0 0], some 69, []⟩ := by kernel_rfl
theorem tab69 : tabOf Tryz.prog 69 = some ⟨true, 2, 16, [.int .i64 0, .int .i64 0], none, [(0, 3), (1, 3)]⟩ := by kernel_rfl
theorem tab78 : tabOf Tryz.prog 78 = some ⟨false, 1, 8, [.int .u64 0], none, []⟩ := by kernel_rfl
theorem tab80 : tabOf Tryz.prog 80 = some ⟨true, 3, 40, [.slice none 0 0, .int .i64 0, .int .u64 0], none, [(0, 22), (1, 3), (2, 78)]⟩ := by kernel_rfl
theorem may5 : callOk Tryz.prog 5 = true := by kernel_rfl
theorem may6 : callOk Tryz.prog 6 = true := by kernel_rfl
theorem may7 : callOk Tryz.prog 7 = true := by kernel_rfl
theorem may8 : callOk Tryz.prog 8 = true := by kernel_rfl
theorem may9 : callOk Tryz.prog 9 = true := by kernel_rfl
theorem may10 : callOk Tryz.prog 10 = true := by kernel_rfl
theorem may11 : callOk Tryz.prog 11 = true := by kernel_rfl
theorem may12 : callOk Tryz.prog 12 = true := by kernel_rfl
theorem may13 : callOk Tryz.prog 13 = true := by kernel_rfl
theorem may14 : callOk Tryz.prog 14 = true := by kernel_rfl
theorem may15 : callOk Tryz.prog 15 = true := by kernel_rfl
theorem may16 : callOk Tryz.prog 16 = true := by kernel_rfl
theorem may17 : callOk Tryz.prog 17 = true := by kernel_rfl
theorem may31 : callOk Tryz.prog 31 = true := by kernel_rfl
theorem may32 : callOk Tryz.prog 32 = true := by kernel_rfl
theorem may33 : callOk Tryz.prog 33 = true := by kernel_rfl
theorem may34 : callOk Tryz.prog 34 = true := by kernel_rfl
theorem may35 : callOk Tryz.prog 35 = true := by kernel_rfl
theorem may36 : callOk Tryz.prog 36 = true := by kernel_rfl
theorem may37 : callOk Tryz.prog 37 = true := by kernel_rfl
theorem may38 : callOk Tryz.prog 38 = true := by kernel_rfl
theorem may39 : callOk Tryz.prog 39 = true := by kernel_rfl
theorem may40 : callOk Tryz.prog 40 = true := by kernel_rfl
theorem may41 : callOk Tryz.prog 41 = true := by kernel_rfl
theorem may42 : callOk Tryz.prog 42 = true := by kernel_rfl
theorem may43 : callOk Tryz.prog 43 = true := by kernel_rfl
theorem may53 : callOk Tryz.prog 53 = true := by kernel_rfl
theorem may55 : callOk Tryz.prog 55 = true := by kernel_rfl
theorem may65 : callOk Tryz.prog 65 = true := by kernel_rfl
theorem may77 : callOk Tryz.prog 77 = true := by kernel_rfl
theorem may80 : callOk Tryz.prog 80 = true := by kernel_rfl
theorem may81 : callOk Tryz.prog 81 = true := by kernel_rfl
theorem may82 : callOk Tryz.prog 82 = true := by kernel_rfl
theorem may83 : callOk Tryz.prog 83 = true := by kernel_rfl
theorem may84 : callOk Tryz.prog 84 = true := by kernel_rfl
theorem may86 : callOk Tryz.prog 86 = true := by kernel_rfl
theorem may97 : callOk Tryz.prog 97 = true := by kernel_rfl
theorem may98 : callOk Tryz.prog 98 = true := by kernel_rfl
theorem may99 : callOk Tryz.prog 99 = true := by kernel_rfl
theorem may100 : callOk Tryz.prog 100 = true := by kernel_rfl
theorem may101 : callOk Tryz.prog 101 = true := by kernel_rfl
theorem may102 : callOk Tryz.prog 102 = true := by kernel_rfl
theorem may103 : callOk Tryz.prog 103 = true := by kernel_rfl
theorem may110 : callOk Tryz.prog 110 = true := by kernel_rfl
theorem may128 : callOk Tryz.prog 128 = true := by kernel_rfl
theorem may129 : callOk Tryz.prog 129 = true := by kernel_rfl
theorem may135 : callOk Tryz.prog 135 = true := by kernel_rfl
theorem may138 : callOk Tryz.prog 138 = true := by kernel_rfl
theorem may139 : callOk Tryz.prog 139 = true := by kernel_rfl
theorem may140 : callOk Tryz.prog 140 = true := by kernel_rfl
end Go.Proofs.YtlaahgdikiiahaaGreat
