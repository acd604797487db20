/- The types of this program, and that its functions may be called. Printed by gen_tab.py. -/
import Derived.Test.YtlaahgdikiiahaaCJn11
import Derived.Test.YtlaahgdikiiahaaProg
set_option linter.unusedSimpArgs false
set_option linter.unusedVariables false
namespace Go.Proofs.Ytlaahgdikiiahaa
open Go Go.RowKit
theorem tab3 : tabOf Try.prog 3 = some ⟨false, 1, 8, [.int .i64 0], none, []⟩ := by kernel_rfl
theorem bool4 : boolTy Try.prog 4 = true := by kernel_rfl
theorem tab5 : tabOf Try.prog 5 = some ⟨false, 1, 1, [.int .u8 0], none, []⟩ := by kernel_rfl
theorem tab22 : tabOf Try.prog 22 = some ⟨false, 1, 24, [.slice none 0 0], some 5, []⟩ := by kernel_rfl
theorem tab24 : tabOf Try.prog 24 = some ⟨false, 1, 24, [.slice none 0 0], some 38, []⟩ := by kernel_rfl
theorem tab25 : tabOf Try.prog 25 = some ⟨false, 1, 24, [.slice none 0 0], some 3, []⟩ := by kernel_rfl
theorem tab27 : tabOf Try.prog 27 = some ⟨true, 3, 72, [.slice none 0 0, .slice none 0 0, .slice none 0 0], none, [(0, 24), (1, 25), (2, 25)]⟩ := by kernel_rfl
theorem tab38 : tabOf Try.prog 38 = some ⟨false, 1, 24, [.slice none 0 0], some 40, []⟩ := by kernel_rfl
theorem tab40 : tabOf Try.prog 40 = some ⟨true, 2, 16, [.int .i64 0, .int .i64 0], none, [(0, 3), (1, 3)]⟩ := by kernel_rfl
theorem tab52 : tabOf Try.prog 52 = some ⟨false, 1, 8, [.int .u64 0], none, []⟩ := by kernel_rfl
theorem tab54 : tabOf Try.prog 54 = some ⟨true, 3, 40, [.slice none 0 0, .int .i64 0, .int .u64 0], none, [(0, 22), (1, 3), (2, 52)]⟩ := by kernel_rfl
theorem may4 : callOk Try.prog 4 = true := by kernel_rfl
theorem may5 : callOk Try.prog 5 = true := by kernel_rfl
theorem may6 : callOk Try.prog 6 = true := by kernel_rfl
theorem may7 : callOk Try.prog 7 = true := by kernel_rfl
theorem may8 : callOk Try.prog 8 = true := by kernel_rfl
theorem may9 : callOk Try.prog 9 = true := by kernel_rfl
theorem may10 : callOk Try.prog 10 = true := by kernel_rfl
theorem may11 : callOk Try.prog 11 = true := by kernel_rfl
theorem may12 : callOk Try.prog 12 = true := by kernel_rfl
theorem may13 : callOk Try.prog 13 = true := by kernel_rfl
theorem may14 : callOk Try.prog 14 = true := by kernel_rfl
theorem may15 : callOk Try.prog 15 = true := by kernel_rfl
theorem may16 : callOk Try.prog 16 = true := by kernel_rfl
theorem may17 : callOk Try.prog 17 = true := by kernel_rfl
theorem may18 : callOk Try.prog 18 = true := by kernel_rfl
theorem may19 : callOk Try.prog 19 = true := by kernel_rfl
theorem may20 : callOk Try.prog 20 = true := by kernel_rfl
theorem may21 : callOk Try.prog 21 = true := by kernel_rfl
theorem may22 : callOk Try.prog 22 = true := by kernel_rfl
theorem may23 : callOk Try.prog 23 = true := by kernel_rfl
theorem may24 : callOk Try.prog 24 = true := by kernel_rfl
theorem may25 : callOk Try.prog 25 = true := by kernel_rfl
theorem may26 : callOk Try.prog 26 = true := by kernel_rfl
theorem may27 : callOk Try.prog 27 = true := by kernel_rfl
theorem may28 : callOk Try.prog 28 = true := by kernel_rfl
theorem may31 : callOk Try.prog 31 = true := by kernel_rfl
theorem may32 : callOk Try.prog 32 = true := by kernel_rfl
theorem may33 : callOk Try.prog 33 = true := by kernel_rfl
theorem may34 : callOk Try.prog 34 = true := by kernel_rfl
theorem may36 : callOk Try.prog 36 = true := by kernel_rfl
theorem may37 : callOk Try.prog 37 = true := by kernel_rfl
theorem may38 : callOk Try.prog 38 = true := by kernel_rfl
theorem may39 : callOk Try.prog 39 = true := by kernel_rfl
theorem may41 : callOk Try.prog 41 = true := by kernel_rfl
theorem may42 : callOk Try.prog 42 = true := by kernel_rfl
theorem may43 : callOk Try.prog 43 = true := by kernel_rfl
theorem may44 : callOk Try.prog 44 = true := by kernel_rfl
theorem may46 : callOk Try.prog 46 = true := by kernel_rfl
theorem may50 : callOk Try.prog 50 = true := by kernel_rfl
theorem may51 : callOk Try.prog 51 = true := by kernel_rfl
theorem may52 : callOk Try.prog 52 = true := by kernel_rfl
theorem may53 : callOk Try.prog 53 = true := by kernel_rfl
theorem may54 : callOk Try.prog 54 = true := by kernel_rfl
theorem may57 : callOk Try.prog 57 = true := by kernel_rfl
theorem may58 : callOk Try.prog 58 = true := by kernel_rfl
theorem may59 : callOk Try.prog 59 = true := by kernel_rfl
theorem may61 : callOk Try.prog 61 = true := by kernel_rfl
theorem may62 : callOk Try.prog 62 = true := by kernel_rfl
theorem may63 : callOk Try.prog 63 = true := by kernel_rfl
theorem may64 : callOk Try.prog 64 = true := by kernel_rfl
theorem may65 : callOk Try.prog 65 = true := by kernel_rfl
theorem may66 : callOk Try.prog 66 = true := by kernel_rfl
theorem may67 : callOk Try.prog 67 = true := by kernel_rfl
theorem may74 : callOk Try.prog 74 = true := by kernel_rfl
theorem may75 : callOk Try.prog 75 = true := by kernel_rfl
theorem may76 : callOk Try.prog 76 = true := by kernel_rfl
end Go.Proofs.Ytlaahgdikiiahaa
