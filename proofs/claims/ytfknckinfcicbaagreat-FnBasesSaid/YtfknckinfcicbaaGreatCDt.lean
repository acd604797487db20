/- The types of this program, and that its functions may be called. Printed by gen_tab.py. -/
import Derived.Test.YtfknckinfcicbaaGreatCJn10
import Derived.Test.YtfknckinfcicbaaGreatProg
set_option linter.unusedSimpArgs false
set_option linter.unusedVariables false
namespace Go.Proofs.YtfknckinfcicbaaGreat
open Go Go.RowKit
theorem ch:bp Tryz.prog 3 = some ⟨false,1,8,[.int .i64 0],none,[]⟩:=by kernel_rfl
theorem jdw:bp Tryz.prog 4 = some ⟨false,1,1,[.bool false],none,[]⟩:=by kernel_rfl
theorem jcw:Db Tryz.prog 4 = true:=by kernel_rfl
theorem Kp:bp Tryz.prog 5 = some ⟨false,1,1,[.int .u8 0],none,[]⟩:=by kernel_rfl
theorem qt:bp Tryz.prog 22 = some ⟨false,1,24,[.slice none 0 0],some 5,[]⟩:=by kernel_rfl
theorem ee:bp Tryz.prog 24 = some ⟨false,1,24,[.slice none 0 0],some 26,[]⟩:=by kernel_rfl
theorem bb:bp Tryz.prog 26 = some ⟨false,1,24,[.slice none 0 0],some 3,[]⟩:=by kernel_rfl
theorem bn:bp Tryz.prog 29 = some ⟨false,1,24,[.slice none 0 0],some 95,[]⟩:=by kernel_rfl
theorem aq:bp Tryz.prog 31 = some ⟨true,3,72,[.slice none 0 0,.slice none 0 0,.slice none 0 0],none,[(0,29),(1,26),(2,26)]⟩:=by kernel_rfl
theorem M8:bp Tryz.prog 67 = some ⟨false,1,8,[.int .u64 0],none,[]⟩:=by kernel_rfl
theorem M7:bp Tryz.prog 69 = some ⟨true,3,40,[.slice none 0 0,.int .i64 0,.int .u64 0],none,[(0,22),(1,3),(2,67)]⟩:=by kernel_rfl
theorem b7:bp Tryz.prog 95 = some ⟨false,1,24,[.slice none 0 0],some 97,[]⟩:=by kernel_rfl
theorem cd:bp Tryz.prog 97 = some ⟨true,2,16,[.int .i64 0,.int .i64 0],none,[(0,3),(1,3)]⟩:=by kernel_rfl
theorem C0:so Tryz.prog 97 = some [0,1]:=by kernel_rfl
theorem jdk:ap Tryz.prog 6 = true:=by kernel_rfl
theorem Tz:ap Tryz.prog 11 = true:=by kernel_rfl
theorem jcp:ap Tryz.prog 28 = true:=by kernel_rfl
theorem Yr:ap Tryz.prog 29 = true:=by kernel_rfl
theorem Yq:ap Tryz.prog 30 = true:=by kernel_rfl
theorem I4:ap Tryz.prog 31 = true:=by kernel_rfl
theorem N8:ap Tryz.prog 32 = true:=by kernel_rfl
theorem Yp:ap Tryz.prog 33 = true:=by kernel_rfl
theorem To:ap Tryz.prog 34 = true:=by kernel_rfl
theorem jco:ap Tryz.prog 35 = true:=by kernel_rfl
theorem jcn:ap Tryz.prog 36 = true:=by kernel_rfl
theorem jcm:ap Tryz.prog 37 = true:=by kernel_rfl
theorem Yo:ap Tryz.prog 38 = true:=by kernel_rfl
theorem n9:ap Tryz.prog 40 = true:=by kernel_rfl
theorem zp:ap Tryz.prog 43 = true:=by kernel_rfl
theorem N0:ap Tryz.prog 45 = true:=by kernel_rfl
theorem jcl:ap Tryz.prog 47 = true:=by kernel_rfl
theorem jck:ap Tryz.prog 55 = true:=by kernel_rfl
theorem Ez:ap Tryz.prog 60 = true:=by kernel_rfl
theorem fg:ap Tryz.prog 62 = true:=by kernel_rfl
theorem tr:ap Tryz.prog 63 = true:=by kernel_rfl
theorem Nz:ap Tryz.prog 69 = true:=by kernel_rfl
theorem jcj:ap Tryz.prog 71 = true:=by kernel_rfl
theorem Tn:ap Tryz.prog 72 = true:=by kernel_rfl
theorem Yn:ap Tryz.prog 73 = true:=by kernel_rfl
theorem zo:ap Tryz.prog 74 = true:=by kernel_rfl
theorem Ym:ap Tryz.prog 75 = true:=by kernel_rfl
theorem Ny:ap Tryz.prog 76 = true:=by kernel_rfl
theorem Yl:ap Tryz.prog 77 = true:=by kernel_rfl
theorem jci:ap Tryz.prog 78 = true:=by kernel_rfl
theorem Ey:ap Tryz.prog 79 = true:=by kernel_rfl
theorem Tm:ap Tryz.prog 80 = true:=by kernel_rfl
theorem I3:ap Tryz.prog 81 = true:=by kernel_rfl
theorem Tl:ap Tryz.prog 82 = true:=by kernel_rfl
theorem Tk:ap Tryz.prog 83 = true:=by kernel_rfl
theorem jch:ap Tryz.prog 84 = true:=by kernel_rfl
theorem jcg:ap Tryz.prog 85 = true:=by kernel_rfl
theorem jcf:ap Tryz.prog 86 = true:=by kernel_rfl
theorem Yk:ap Tryz.prog 91 = true:=by kernel_rfl
theorem Yj:ap Tryz.prog 96 = true:=by kernel_rfl
theorem Tj:ap Tryz.prog 99 = true:=by kernel_rfl
theorem Z0:ap Tryz.prog 104 = true:=by kernel_rfl
theorem yp:ap Tryz.prog 107 = true:=by kernel_rfl
theorem Gn:ap Tryz.prog 108 = true:=by kernel_rfl
theorem Zz:ap Tryz.prog 112 = true:=by kernel_rfl
theorem Ty:ap Tryz.prog 115 = true:=by kernel_rfl
theorem Cj:ap Tryz.prog 116 = true:=by kernel_rfl
theorem ut:ap Tryz.prog 117 = true:=by kernel_rfl
theorem yo:ap Tryz.prog 118 = true:=by kernel_rfl
theorem l0:ap Tryz.prog 119 = true:=by kernel_rfl
theorem Tx:ap Tryz.prog 120 = true:=by kernel_rfl
theorem ur:ap Tryz.prog 121 = true:=by kernel_rfl
theorem Zy:ap Tryz.prog 122 = true:=by kernel_rfl
theorem uq:ap Tryz.prog 123 = true:=by kernel_rfl
theorem uo:ap Tryz.prog 124 = true:=by kernel_rfl
theorem kv:ap Tryz.prog 125 = true:=by kernel_rfl
theorem Ll:ap Tryz.prog 126 = true:=by kernel_rfl
theorem Tw:ap Tryz.prog 127 = true:=by kernel_rfl
theorem Zx:ap Tryz.prog 128 = true:=by kernel_rfl
theorem nj:ap Tryz.prog 129 = true:=by kernel_rfl
theorem Lk:ap Tryz.prog 130 = true:=by kernel_rfl
theorem Tv:ap Tryz.prog 131 = true:=by kernel_rfl
theorem un:ap Tryz.prog 132 = true:=by kernel_rfl
theorem Gm:ap Tryz.prog 133 = true:=by kernel_rfl
theorem Zw:ap Tryz.prog 137 = true:=by kernel_rfl
theorem Gl:ap Tryz.prog 141 = true:=by kernel_rfl
theorem Tu:ap Tryz.prog 142 = true:=by kernel_rfl
theorem Tt:ap Tryz.prog 143 = true:=by kernel_rfl
theorem Zv:ap Tryz.prog 144 = true:=by kernel_rfl
theorem Gk:ap Tryz.prog 145 = true:=by kernel_rfl
theorem Ts:ap Tryz.prog 146 = true:=by kernel_rfl
theorem Gj:ap Tryz.prog 147 = true:=by kernel_rfl
theorem Gi:ap Tryz.prog 148 = true:=by kernel_rfl
theorem Tr:ap Tryz.prog 150 = true:=by kernel_rfl
theorem Zu:ap Tryz.prog 151 = true:=by kernel_rfl
theorem Tq:ap Tryz.prog 154 = true:=by kernel_rfl
theorem Tp:ap Tryz.prog 155 = true:=by kernel_rfl
theorem Zt:ap Tryz.prog 158 = true:=by kernel_rfl
end Go.Proofs.YtfknckinfcicbaaGreat
