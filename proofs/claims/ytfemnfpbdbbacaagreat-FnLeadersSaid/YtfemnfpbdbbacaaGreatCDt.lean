/- The types of this program, and that its functions may be called. Printed by gen_tab.py. -/
import Derived.Test.YtfemnfpbdbbacaaGreatCJn9
import Derived.Test.YtfemnfpbdbbacaaGreatProg
set_option linter.unusedSimpArgs false
set_option linter.unusedVariables false
namespace Go.Proofs.YtfemnfpbdbbacaaGreat
open Go Go.RowKit
theorem b4 : bj Tryz.prog 3 = some ⟨false, 1, 8, [.int .i64 0], none, []⟩ := by kernel_rfl
theorem jca : bj Tryz.prog 4 = some ⟨false, 1, 1, [.bool false], none, []⟩ := by kernel_rfl
theorem jbp : B5 Tryz.prog 4 = true := by kernel_rfl
theorem Jr : bj Tryz.prog 5 = some ⟨false, 1, 1, [.int .u8 0], none, []⟩ := by kernel_rfl
theorem xk : bj Tryz.prog 22 = some ⟨false, 1, 24, [.slice none 0 0], some 5, []⟩ := by kernel_rfl
theorem bl : bj Tryz.prog 24 = some ⟨false, 1, 24, [.slice none 0 0], some 48, []⟩ := by kernel_rfl
theorem a7 : bj Tryz.prog 25 = some ⟨false, 1, 24, [.slice none 0 0], some 3, []⟩ := by kernel_rfl
theorem ap : bj Tryz.prog 27 = some ⟨true, 3, 72, [.slice none 0 0, .slice none 0 0, .slice none 0 0], none, [(0, 24), (1, 25), (2, 25)]⟩ := by kernel_rfl
theorem jau : bj Tryz.prog 39 = some ⟨false, 1, 8, [.int .u64 0], none, []⟩ := by kernel_rfl
theorem jat : bj Tryz.prog 41 = some ⟨true, 3, 40, [.slice none 0 0, .int .i64 0, .int .u64 0], none, [(0, 22), (1, 3), (2, 39)]⟩ := by kernel_rfl
theorem bw : bj Tryz.prog 48 = some ⟨false, 1, 24, [.slice none 0 0], some 50, []⟩ := by kernel_rfl
theorem b6 : bj Tryz.prog 50 = some ⟨true, 2, 16, [.int .i64 0, .int .i64 0], none, [(0, 3), (1, 3)]⟩ := by kernel_rfl
theorem Xe : qq Tryz.prog 50 = some [0, 1] := by kernel_rfl
theorem jas : bj Tryz.prog 53 = some ⟨false, 1, 24, [.slice none 0 0], some 4, []⟩ := by kernel_rfl
theorem jn : bj Tryz.prog 72 = some ⟨false, 1, 24, [.slice none 0 0], some 25, []⟩ := by kernel_rfl
theorem jcj : ak Tryz.prog 4 = true := by kernel_rfl
theorem jci : ak Tryz.prog 5 = true := by kernel_rfl
theorem jch : ak Tryz.prog 6 = true := by kernel_rfl
theorem jcg : ak Tryz.prog 7 = true := by kernel_rfl
theorem jcf : ak Tryz.prog 8 = true := by kernel_rfl
theorem jce : ak Tryz.prog 9 = true := by kernel_rfl
theorem Xc : ak Tryz.prog 10 = true := by kernel_rfl
theorem Du : ak Tryz.prog 11 = true := by kernel_rfl
theorem Xb : ak Tryz.prog 12 = true := by kernel_rfl
theorem Xa : ak Tryz.prog 13 = true := by kernel_rfl
theorem Mx : ak Tryz.prog 14 = true := by kernel_rfl
theorem W9 : ak Tryz.prog 15 = true := by kernel_rfl
theorem Hv : ak Tryz.prog 16 = true := by kernel_rfl
theorem x7 : ak Tryz.prog 17 = true := by kernel_rfl
theorem W8 : ak Tryz.prog 18 = true := by kernel_rfl
theorem Sf : ak Tryz.prog 19 = true := by kernel_rfl
theorem Mw : ak Tryz.prog 20 = true := by kernel_rfl
theorem jw : ak Tryz.prog 21 = true := by kernel_rfl
theorem pg : ak Tryz.prog 22 = true := by kernel_rfl
theorem x5 : ak Tryz.prog 23 = true := by kernel_rfl
theorem Bf : ak Tryz.prog 24 = true := by kernel_rfl
theorem Mv : ak Tryz.prog 25 = true := by kernel_rfl
theorem Dt : ak Tryz.prog 26 = true := by kernel_rfl
theorem jbg : ak Tryz.prog 27 = true := by kernel_rfl
theorem xz : ak Tryz.prog 28 = true := by kernel_rfl
theorem xy : ak Tryz.prog 29 = true := by kernel_rfl
theorem W7 : ak Tryz.prog 30 = true := by kernel_rfl
theorem jbf : ak Tryz.prog 31 = true := by kernel_rfl
theorem W6 : ak Tryz.prog 33 = true := by kernel_rfl
theorem Mu : ak Tryz.prog 34 = true := by kernel_rfl
theorem jbe : ak Tryz.prog 35 = true := by kernel_rfl
theorem W5 : ak Tryz.prog 36 = true := by kernel_rfl
theorem Hu : ak Tryz.prog 37 = true := by kernel_rfl
theorem Mt : ak Tryz.prog 38 = true := by kernel_rfl
theorem W4 : ak Tryz.prog 39 = true := by kernel_rfl
theorem jbd : ak Tryz.prog 40 = true := by kernel_rfl
theorem jbc : ak Tryz.prog 41 = true := by kernel_rfl
theorem uh : ak Tryz.prog 42 = true := by kernel_rfl
theorem jbb : ak Tryz.prog 43 = true := by kernel_rfl
theorem W3 : ak Tryz.prog 44 = true := by kernel_rfl
theorem gk : ak Tryz.prog 45 = true := by kernel_rfl
theorem Se : ak Tryz.prog 46 = true := by kernel_rfl
theorem Sd : ak Tryz.prog 47 = true := by kernel_rfl
theorem Ms : ak Tryz.prog 48 = true := by kernel_rfl
theorem Mr : ak Tryz.prog 49 = true := by kernel_rfl
theorem Sc : ak Tryz.prog 50 = true := by kernel_rfl
theorem Ds : ak Tryz.prog 51 = true := by kernel_rfl
theorem Mq : ak Tryz.prog 52 = true := by kernel_rfl
theorem Sb : ak Tryz.prog 53 = true := by kernel_rfl
theorem jba : ak Tryz.prog 54 = true := by kernel_rfl
theorem Be : ak Tryz.prog 58 = true := by kernel_rfl
theorem ug : ak Tryz.prog 59 = true := by kernel_rfl
theorem xw : ak Tryz.prog 60 = true := by kernel_rfl
theorem ja9 : ak Tryz.prog 64 = true := by kernel_rfl
theorem Bd : ak Tryz.prog 65 = true := by kernel_rfl
theorem Ht : ak Tryz.prog 66 = true := by kernel_rfl
theorem Dr : ak Tryz.prog 67 = true := by kernel_rfl
theorem W2 : ak Tryz.prog 68 = true := by kernel_rfl
theorem ja8 : ak Tryz.prog 69 = true := by kernel_rfl
theorem Sa : ak Tryz.prog 70 = true := by kernel_rfl
theorem W0 : ak Tryz.prog 71 = true := by kernel_rfl
theorem Wz : ak Tryz.prog 72 = true := by kernel_rfl
theorem Wy : ak Tryz.prog 73 = true := by kernel_rfl
theorem Wx : ak Tryz.prog 74 = true := by kernel_rfl
theorem Mp : ak Tryz.prog 75 = true := by kernel_rfl
theorem Ww : ak Tryz.prog 77 = true := by kernel_rfl
theorem ja7 : ak Tryz.prog 78 = true := by kernel_rfl
theorem Mo : ak Tryz.prog 82 = true := by kernel_rfl
theorem Mn : ak Tryz.prog 83 = true := by kernel_rfl
theorem R9 : ak Tryz.prog 84 = true := by kernel_rfl
theorem Mm : ak Tryz.prog 85 = true := by kernel_rfl
theorem ja6 : ak Tryz.prog 86 = true := by kernel_rfl
theorem ja5 : ak Tryz.prog 90 = true := by kernel_rfl
end Go.Proofs.YtfemnfpbdbbacaaGreat
