/-
  The shelf's functions on texts, at this program. Script: the shelf's functions as contracts; the short functions. Script: an op in plain words; a number's field; a field's words. Script: an op as a line. Script: a field read of what is left of a line.
-/
import Derived.Test.YtnpofobcbfbfnaaDoorXSTi
import Derived.Test.YtnpofobcbfbfnaaDoorRwT
import Derived.Shelf.LaysC
import Derived.Test.YtnpofobcbfbfnaaDoorProg
import Derived.KernelRfl
import Derived.Test.YtnpofobcbfbfnaaDoorRwS
import Derived.Test.YtnpofobcbfbfnaaDoorRwO
import Derived.Test.YtnpofobcbfbfnaaDoorRwF
import Derived.Lib.TrimAscii
set_option linter.unusedSimpArgs false
set_option linter.unusedVariables false
set_option linter.defProp false
set_option linter.unusedSectionVars false

-- SSc1
section
namespace Go.Proofs
open Go.Shelf
def Tryd.lays101_ren : Go.Shelf.Ren := ⟨fun | 101 => 33 | 206 => 59 | 208 => 44 | n => n, fun | 3 => 3 | 4 => 4 | 9 => 9 | n => n, fun | n => n⟩
theorem Tryd.lays101 : Go.Proofs.Lays.n101 Tryd.prog Tryd.lays101_ren := {
  mixed := by kernel_rfl
  f101 := Tryd.func33.trans (congrArg some (by kernel_rfl))
  f206 := Tryd.func59.trans (congrArg some (by kernel_rfl))
  f208 := Tryd.func44.trans (congrArg some (by kernel_rfl))
  t3 := Tryd.underlying3
  a3 := Tryd.isAgg3
  z3 := Tryd.sizeOf3
  v3 := Tryd.zeroValue3
  t4 := Tryd.underlying4
  a4 := Tryd.isAgg4
  z4 := Tryd.sizeOf4
  v4 := Tryd.zeroValue4
  t9 := Tryd.underlying9
  a9 := Tryd.isAgg9
  z9 := Tryd.sizeOf9
  v9 := Tryd.zeroValue9
}
def Tryd.lays144_ren : Go.Shelf.Ren := ⟨fun | 143 => 40 | 144 => 28 | 217 => 55 | 219 => 43 | 224 => 57 | 225 => 56 | 266 => 76 | 267 => 58 | 314 => 77 | n => n, fun | 3 => 3 | 4 => 4 | 5 => 5 | 9 => 9 | 46 => 90 | 51 => 112 | 146 => 113 | n => n, fun | 1 => 0 | n => n⟩
theorem Tryd.lays144 : Go.Proofs.Lays.n144 Tryd.prog Tryd.lays144_ren := {
  mixed := by kernel_rfl
  f143 := Tryd.func40.trans (congrArg some (by kernel_rfl))
  f144 := Tryd.func28.trans (congrArg some (by kernel_rfl))
  f217 := Tryd.func55.trans (congrArg some (by kernel_rfl))
  f219 := Tryd.func43.trans (congrArg some (by kernel_rfl))
  f224 := Tryd.func57.trans (congrArg some (by kernel_rfl))
  f225 := Tryd.func56.trans (congrArg some (by kernel_rfl))
  f266 := Tryd.func76.trans (congrArg some (by kernel_rfl))
  f267 := Tryd.func58.trans (congrArg some (by kernel_rfl))
  f314 := Tryd.func77.trans (congrArg some (by kernel_rfl))
  t3 := Tryd.underlying3
  a3 := Tryd.isAgg3
  z3 := Tryd.sizeOf3
  v3 := Tryd.zeroValue3
  t4 := Tryd.underlying4
  a4 := Tryd.isAgg4
  z4 := Tryd.sizeOf4
  v4 := Tryd.zeroValue4
  t5 := Tryd.underlying5
  a5 := Tryd.isAgg5
  z5 := Tryd.sizeOf5
  v5 := Tryd.zeroValue5
  t9 := Tryd.underlying9
  a9 := Tryd.isAgg9
  z9 := Tryd.sizeOf9
  v9 := Tryd.zeroValue9
  t46 := Tryd.underlying90
  a46 := Tryd.isAgg90
  z46 := Tryd.sizeOf90
  v46 := Tryd.zeroValue90
  t51 := Tryd.underlying112
  a51 := Tryd.isAgg112
  z51 := Tryd.sizeOf112
  v51 := Tryd.zeroValue112
  t146 := Tryd.underlying113
  a146 := Tryd.isAgg113
  z146 := Tryd.sizeOf113
  v146 := Tryd.zeroValue113
  g1 := by kernel_rfl
}
def Tryd.lays219_ren : Go.Shelf.Ren := ⟨fun | 217 => 55 | 219 => 43 | 224 => 57 | 225 => 56 | 266 => 76 | 267 => 58 | 314 => 77 | n => n, fun | 3 => 3 | 4 => 4 | 5 => 5 | 9 => 9 | 46 => 90 | 51 => 112 | 146 => 113 | n => n, fun | 1 => 0 | n => n⟩
theorem Tryd.lays219 : Go.Proofs.Lays.n219 Tryd.prog Tryd.lays219_ren := {
  mixed := by kernel_rfl
  f217 := Tryd.func55.trans (congrArg some (by kernel_rfl))
  f219 := Tryd.func43.trans (congrArg some (by kernel_rfl))
  f224 := Tryd.func57.trans (congrArg some (by kernel_rfl))
  f225 := Tryd.func56.trans (congrArg some (by kernel_rfl))
  f266 := Tryd.func76.trans (congrArg some (by kernel_rfl))
  f267 := Tryd.func58.trans (congrArg some (by kernel_rfl))
  f314 := Tryd.func77.trans (congrArg some (by kernel_rfl))
  t3 := Tryd.underlying3
  a3 := Tryd.isAgg3
  z3 := Tryd.sizeOf3
  v3 := Tryd.zeroValue3
  t4 := Tryd.underlying4
  a4 := Tryd.isAgg4
  z4 := Tryd.sizeOf4
  v4 := Tryd.zeroValue4
  t5 := Tryd.underlying5
  a5 := Tryd.isAgg5
  z5 := Tryd.sizeOf5
  v5 := Tryd.zeroValue5
  t9 := Tryd.underlying9
  a9 := Tryd.isAgg9
  z9 := Tryd.sizeOf9
  v9 := Tryd.zeroValue9
  t46 := Tryd.underlying90
  a46 := Tryd.isAgg90
  z46 := Tryd.sizeOf90
  v46 := Tryd.zeroValue90
  t51 := Tryd.underlying112
  a51 := Tryd.isAgg112
  z51 := Tryd.sizeOf112
  v51 := Tryd.zeroValue112
  t146 := Tryd.underlying113
  a146 := Tryd.isAgg113
  z146 := Tryd.sizeOf113
  v146 := Tryd.zeroValue113
  g1 := by kernel_rfl
}
def Tryd.lays138_ren : Go.Shelf.Ren := ⟨fun | 138 => 49 | 143 => 40 | 195 => 66 | 217 => 55 | 218 => 67 | 219 => 43 | 224 => 57 | 225 => 56 | 266 => 76 | 267 => 58 | 314 => 77 | n => n, fun | 0 => 0 | 3 => 3 | 4 => 4 | 5 => 5 | 9 => 9 | 46 => 90 | 51 => 112 | 146 => 113 | n => n, fun | 1 => 0 | n => n⟩
theorem Tryd.lays138 : Go.Proofs.Lays.n138 Tryd.prog Tryd.lays138_ren := {
  mixed := by kernel_rfl
  f138 := Tryd.func49.trans (congrArg some (by kernel_rfl))
  f143 := Tryd.func40.trans (congrArg some (by kernel_rfl))
  f195 := Tryd.func66.trans (congrArg some (by kernel_rfl))
  f217 := Tryd.func55.trans (congrArg some (by kernel_rfl))
  f218 := Tryd.func67.trans (congrArg some (by kernel_rfl))
  f219 := Tryd.func43.trans (congrArg some (by kernel_rfl))
  f224 := Tryd.func57.trans (congrArg some (by kernel_rfl))
  f225 := Tryd.func56.trans (congrArg some (by kernel_rfl))
  f266 := Tryd.func76.trans (congrArg some (by kernel_rfl))
  f267 := Tryd.func58.trans (congrArg some (by kernel_rfl))
  f314 := Tryd.func77.trans (congrArg some (by kernel_rfl))
  t0 := Tryd.underlying0
  a0 := Tryd.isAgg0
  z0 := Tryd.sizeOf0
  v0 := Tryd.zeroValue0
  t3 := Tryd.underlying3
  a3 := Tryd.isAgg3
  z3 := Tryd.sizeOf3
  v3 := Tryd.zeroValue3
  t4 := Tryd.underlying4
  a4 := Tryd.isAgg4
  z4 := Tryd.sizeOf4
  v4 := Tryd.zeroValue4
  t5 := Tryd.underlying5
  a5 := Tryd.isAgg5
  z5 := Tryd.sizeOf5
  v5 := Tryd.zeroValue5
  t9 := Tryd.underlying9
  a9 := Tryd.isAgg9
  z9 := Tryd.sizeOf9
  v9 := Tryd.zeroValue9
  t46 := Tryd.underlying90
  a46 := Tryd.isAgg90
  z46 := Tryd.sizeOf90
  v46 := Tryd.zeroValue90
  t51 := Tryd.underlying112
  a51 := Tryd.isAgg112
  z51 := Tryd.sizeOf112
  v51 := Tryd.zeroValue112
  t146 := Tryd.underlying113
  a146 := Tryd.isAgg113
  z146 := Tryd.sizeOf113
  v146 := Tryd.zeroValue113
  g1 := by kernel_rfl
}
def Tryd.lays150_ren : Go.Shelf.Ren := ⟨fun | 119 => 88 | 137 => 87 | 150 => 39 | 152 => 72 | 153 => 52 | 217 => 55 | 224 => 57 | 225 => 56 | 226 => 73 | 227 => 74 | 228 => 75 | 266 => 76 | n => n, fun | 0 => 0 | 3 => 3 | 4 => 4 | 5 => 5 | 9 => 9 | 21 => 21 | 46 => 90 | 116 => 108 | 117 => 109 | 124 => 125 | n => n, fun | n => n⟩
theorem Tryd.lays150 : Go.Proofs.Lays.n150 Tryd.prog Tryd.lays150_ren := {
  mixed := by kernel_rfl
  f119 := Tryd.func88.trans (congrArg some (by kernel_rfl))
  f137 := Tryd.func87.trans (congrArg some (by kernel_rfl))
  f150 := Tryd.func39.trans (congrArg some (by kernel_rfl))
  f152 := Tryd.func72.trans (congrArg some (by kernel_rfl))
  f153 := Tryd.func52.trans (congrArg some (by kernel_rfl))
  f217 := Tryd.func55.trans (congrArg some (by kernel_rfl))
  f224 := Tryd.func57.trans (congrArg some (by kernel_rfl))
  f225 := Tryd.func56.trans (congrArg some (by kernel_rfl))
  f226 := Tryd.func73.trans (congrArg some (by kernel_rfl))
  f227 := Tryd.func74.trans (congrArg some (by kernel_rfl))
  f228 := Tryd.func75.trans (congrArg some (by kernel_rfl))
  f266 := Tryd.func76.trans (congrArg some (by kernel_rfl))
  t0 := Tryd.underlying0
  a0 := Tryd.isAgg0
  z0 := Tryd.sizeOf0
  v0 := Tryd.zeroValue0
  t3 := Tryd.underlying3
  a3 := Tryd.isAgg3
  z3 := Tryd.sizeOf3
  v3 := Tryd.zeroValue3
  t4 := Tryd.underlying4
  a4 := Tryd.isAgg4
  z4 := Tryd.sizeOf4
  v4 := Tryd.zeroValue4
  t5 := Tryd.underlying5
  a5 := Tryd.isAgg5
  z5 := Tryd.sizeOf5
  v5 := Tryd.zeroValue5
  t9 := Tryd.underlying9
  a9 := Tryd.isAgg9
  z9 := Tryd.sizeOf9
  v9 := Tryd.zeroValue9
  t21 := Tryd.underlying21
  a21 := Tryd.isAgg21
  z21 := Tryd.sizeOf21
  v21 := Tryd.zeroValue21
  t46 := Tryd.underlying90
  a46 := Tryd.isAgg90
  z46 := Tryd.sizeOf90
  v46 := Tryd.zeroValue90
  t116 := Tryd.underlying108
  a116 := Tryd.isAgg108
  z116 := Tryd.sizeOf108
  t117 := Tryd.underlying109
  a117 := Tryd.isAgg109
  z117 := Tryd.sizeOf109
  v117 := Tryd.zeroValue109
  t124 := Tryd.underlying125
  a124 := Tryd.isAgg125
  z124 := Tryd.sizeOf125
  v124 := Tryd.zeroValue125
}
def Tryd.lays156_ren : Go.Shelf.Ren := ⟨fun | 156 => 15 | 165 => 29 | 166 => 30 | 169 => 31 | 240 => 41 | 241 => 42 | 276 => 53 | 277 => 54 | n => n, fun | 0 => 0 | 3 => 3 | 4 => 4 | 5 => 5 | 9 => 9 | 20 => 20 | 31 => 35 | 37 => 37 | 70 => 68 | 72 => 70 | 75 => 73 | 76 => 74 | 80 => 76 | 127 => 80 | 164 => 85 | n => n, fun | n => n⟩
theorem Tryd.lays156 : Go.Proofs.Lays.n156 Tryd.prog Tryd.lays156_ren := {
  mixed := by kernel_rfl
  f156 := Tryd.func15.trans (congrArg some (by kernel_rfl))
  f165 := Tryd.func29.trans (congrArg some (by kernel_rfl))
  f166 := Tryd.func30.trans (congrArg some (by kernel_rfl))
  f169 := Tryd.func31.trans (congrArg some (by kernel_rfl))
  f240 := Tryd.func41.trans (congrArg some (by kernel_rfl))
  f241 := Tryd.func42.trans (congrArg some (by kernel_rfl))
  f276 := Tryd.func53.trans (congrArg some (by kernel_rfl))
  f277 := Tryd.func54.trans (congrArg some (by kernel_rfl))
  t0 := Tryd.underlying0
  a0 := Tryd.isAgg0
  z0 := Tryd.sizeOf0
  v0 := Tryd.zeroValue0
  t3 := Tryd.underlying3
  a3 := Tryd.isAgg3
  z3 := Tryd.sizeOf3
  v3 := Tryd.zeroValue3
  t4 := Tryd.underlying4
  a4 := Tryd.isAgg4
  z4 := Tryd.sizeOf4
  v4 := Tryd.zeroValue4
  t9 := Tryd.underlying9
  a9 := Tryd.isAgg9
  z9 := Tryd.sizeOf9
  v9 := Tryd.zeroValue9
  t20 := Tryd.underlying20
  a20 := Tryd.isAgg20
  z20 := Tryd.sizeOf20
  v20 := Tryd.zeroValue20
  t31 := Tryd.underlying35
  a31 := Tryd.isAgg35
  z31 := Tryd.sizeOf35
  v31 := Tryd.zeroValue35
  t37 := Tryd.underlying37
  a37 := Tryd.isAgg37
  z37 := Tryd.sizeOf37
  v37 := Tryd.zeroValue37
  t70 := Tryd.underlying68
  a70 := Tryd.isAgg68
  z70 := Tryd.sizeOf68
  v70 := Tryd.zeroValue68
  t72 := Tryd.underlying70
  a72 := Tryd.isAgg70
  z72 := Tryd.sizeOf70
  v72 := Tryd.zeroValue70
  t75 := Tryd.underlying73
  a75 := Tryd.isAgg73
  z75 := Tryd.sizeOf73
  v75 := Tryd.zeroValue73
  t76 := Tryd.underlying74
  a76 := Tryd.isAgg74
  z76 := Tryd.sizeOf74
  v76 := Tryd.zeroValue74
  t127 := Tryd.underlying80
  a127 := Tryd.isAgg80
  z127 := Tryd.sizeOf80
  v127 := Tryd.zeroValue80
  t164 := Tryd.underlying85
  a164 := Tryd.isAgg85
  z164 := Tryd.sizeOf85
  v164 := Tryd.zeroValue85
}
def Tryd.lays171_ren : Go.Shelf.Ren := ⟨fun | 129 => 83 | 171 => 23 | 243 => 38 | 246 => 51 | 283 => 68 | 284 => 69 | 285 => 70 | 286 => 71 | 317 => 82 | 318 => 84 | 319 => 85 | 320 => 86 | 337 => 91 | 338 => 92 | n => n, fun | 0 => 0 | 2 => 2 | 3 => 3 | 4 => 4 | 5 => 5 | 9 => 9 | 20 => 20 | 37 => 37 | 46 => 90 | 51 => 112 | 53 => 101 | 171 => 100 | 173 => 104 | 212 => 121 | 213 => 122 | 232 => 135 | 233 => 136 | n => n, fun | 17 => 3 | 18 => 6 | 19 => 7 | n => n⟩
theorem Tryd.lays171 : Go.Proofs.Lays.n171 Tryd.prog Tryd.lays171_ren := {
  mixed := by kernel_rfl
  f129 := Tryd.func83.trans (congrArg some (by kernel_rfl))
  f171 := Tryd.func23.trans (congrArg some (by kernel_rfl))
  f243 := Tryd.func38.trans (congrArg some (by kernel_rfl))
  f246 := Tryd.func51.trans (congrArg some (by kernel_rfl))
  f283 := Tryd.func68.trans (congrArg some (by kernel_rfl))
  f284 := Tryd.func69.trans (congrArg some (by kernel_rfl))
  f285 := Tryd.func70.trans (congrArg some (by kernel_rfl))
  f286 := Tryd.func71.trans (congrArg some (by kernel_rfl))
  f317 := Tryd.func82.trans (congrArg some (by kernel_rfl))
  f318 := Tryd.func84.trans (congrArg some (by kernel_rfl))
  f319 := Tryd.func85.trans (congrArg some (by kernel_rfl))
  f320 := Tryd.func86.trans (congrArg some (by kernel_rfl))
  f337 := Tryd.func91.trans (congrArg some (by kernel_rfl))
  f338 := Tryd.func92.trans (congrArg some (by kernel_rfl))
  t0 := Tryd.underlying0
  a0 := Tryd.isAgg0
  z0 := Tryd.sizeOf0
  v0 := Tryd.zeroValue0
  t2 := Tryd.underlying2
  a2 := Tryd.isAgg2
  z2 := Tryd.sizeOf2
  v2 := Tryd.zeroValue2
  t3 := Tryd.underlying3
  a3 := Tryd.isAgg3
  z3 := Tryd.sizeOf3
  v3 := Tryd.zeroValue3
  t4 := Tryd.underlying4
  a4 := Tryd.isAgg4
  z4 := Tryd.sizeOf4
  v4 := Tryd.zeroValue4
  t5 := Tryd.underlying5
  a5 := Tryd.isAgg5
  z5 := Tryd.sizeOf5
  v5 := Tryd.zeroValue5
  t9 := Tryd.underlying9
  a9 := Tryd.isAgg9
  z9 := Tryd.sizeOf9
  v9 := Tryd.zeroValue9
  t20 := Tryd.underlying20
  a20 := Tryd.isAgg20
  z20 := Tryd.sizeOf20
  v20 := Tryd.zeroValue20
  t37 := Tryd.underlying37
  a37 := Tryd.isAgg37
  z37 := Tryd.sizeOf37
  v37 := Tryd.zeroValue37
  t46 := Tryd.underlying90
  a46 := Tryd.isAgg90
  z46 := Tryd.sizeOf90
  v46 := Tryd.zeroValue90
  t51 := Tryd.underlying112
  a51 := Tryd.isAgg112
  z51 := Tryd.sizeOf112
  v51 := Tryd.zeroValue112
  t53 := Tryd.underlying101
  a53 := Tryd.isAgg101
  z53 := Tryd.sizeOf101
  v53 := Tryd.zeroValue101
  t171 := Tryd.underlying100
  a171 := Tryd.isAgg100
  z171 := Tryd.sizeOf100
  v171 := Tryd.zeroValue100
  t173 := Tryd.underlying104
  a173 := Tryd.isAgg104
  z173 := Tryd.sizeOf104
  v173 := Tryd.zeroValue104
  t212 := Tryd.underlying121
  a212 := Tryd.isAgg121
  z212 := Tryd.sizeOf121
  v212 := Tryd.zeroValue121
  t213 := Tryd.underlying122
  a213 := Tryd.isAgg122
  z213 := Tryd.sizeOf122
  t232 := Tryd.underlying135
  a232 := Tryd.isAgg135
  z232 := Tryd.sizeOf135
  v232 := Tryd.zeroValue135
  t233 := Tryd.underlying136
  a233 := Tryd.isAgg136
  z233 := Tryd.sizeOf136
  v233 := Tryd.zeroValue136
  g17 := by kernel_rfl
  g18 := by kernel_rfl
  g19 := by kernel_rfl
}
def Tryd.lays172_ren : Go.Shelf.Ren := ⟨fun | 129 => 83 | 171 => 23 | 172 => 34 | 205 => 80 | 243 => 38 | 244 => 45 | 245 => 46 | 246 => 51 | 247 => 60 | 279 => 61 | 280 => 62 | 281 => 63 | 282 => 64 | 283 => 68 | 284 => 69 | 285 => 70 | 286 => 71 | 287 => 78 | 316 => 79 | 317 => 82 | 318 => 84 | 319 => 85 | 320 => 86 | 321 => 89 | 322 => 90 | 337 => 91 | 338 => 92 | n => n, fun | 0 => 0 | 2 => 2 | 3 => 3 | 4 => 4 | 5 => 5 | 9 => 9 | 20 => 20 | 21 => 21 | 37 => 37 | 46 => 90 | 51 => 112 | 53 => 101 | 75 => 73 | 76 => 74 | 80 => 76 | 85 => 92 | 127 => 80 | 143 => 127 | 145 => 129 | 167 => 91 | 168 => 94 | 171 => 100 | 173 => 104 | 175 => 115 | 210 => 118 | 212 => 121 | 213 => 122 | 232 => 135 | 233 => 136 | n => n, fun | 15 => 1 | 16 => 2 | 17 => 3 | 18 => 6 | 19 => 7 | n => n⟩
theorem Tryd.lays172 : Go.Proofs.Lays.n172 Tryd.prog Tryd.lays172_ren := {
  mixed := by kernel_rfl
  f129 := Tryd.func83.trans (congrArg some (by kernel_rfl))
  f171 := Tryd.func23.trans (congrArg some (by kernel_rfl))
  f172 := Tryd.func34.trans (congrArg some (by kernel_rfl))
  f205 := Tryd.func80.trans (congrArg some (by kernel_rfl))
  f243 := Tryd.func38.trans (congrArg some (by kernel_rfl))
  f244 := Tryd.func45.trans (congrArg some (by kernel_rfl))
  f245 := Tryd.func46.trans (congrArg some (by kernel_rfl))
  f246 := Tryd.func51.trans (congrArg some (by kernel_rfl))
  f247 := Tryd.func60.trans (congrArg some (by kernel_rfl))
  f279 := Tryd.func61.trans (congrArg some (by kernel_rfl))
  f280 := Tryd.func62.trans (congrArg some (by kernel_rfl))
  f281 := Tryd.func63.trans (congrArg some (by kernel_rfl))
  f282 := Tryd.func64.trans (congrArg some (by kernel_rfl))
  f283 := Tryd.func68.trans (congrArg some (by kernel_rfl))
  f284 := Tryd.func69.trans (congrArg some (by kernel_rfl))
  f285 := Tryd.func70.trans (congrArg some (by kernel_rfl))
  f286 := Tryd.func71.trans (congrArg some (by kernel_rfl))
  f287 := Tryd.func78.trans (congrArg some (by kernel_rfl))
  f316 := Tryd.func79.trans (congrArg some (by kernel_rfl))
  f317 := Tryd.func82.trans (congrArg some (by kernel_rfl))
  f318 := Tryd.func84.trans (congrArg some (by kernel_rfl))
  f319 := Tryd.func85.trans (congrArg some (by kernel_rfl))
  f320 := Tryd.func86.trans (congrArg some (by kernel_rfl))
  f321 := Tryd.func89.trans (congrArg some (by kernel_rfl))
  f322 := Tryd.func90.trans (congrArg some (by kernel_rfl))
  f337 := Tryd.func91.trans (congrArg some (by kernel_rfl))
  f338 := Tryd.func92.trans (congrArg some (by kernel_rfl))
  t0 := Tryd.underlying0
  a0 := Tryd.isAgg0
  z0 := Tryd.sizeOf0
  v0 := Tryd.zeroValue0
  t2 := Tryd.underlying2
  a2 := Tryd.isAgg2
  z2 := Tryd.sizeOf2
  v2 := Tryd.zeroValue2
  t3 := Tryd.underlying3
  a3 := Tryd.isAgg3
  z3 := Tryd.sizeOf3
  v3 := Tryd.zeroValue3
  t4 := Tryd.underlying4
  a4 := Tryd.isAgg4
  z4 := Tryd.sizeOf4
  v4 := Tryd.zeroValue4
  t5 := Tryd.underlying5
  a5 := Tryd.isAgg5
  z5 := Tryd.sizeOf5
  v5 := Tryd.zeroValue5
  t9 := Tryd.underlying9
  a9 := Tryd.isAgg9
  z9 := Tryd.sizeOf9
  v9 := Tryd.zeroValue9
  t20 := Tryd.underlying20
  a20 := Tryd.isAgg20
  z20 := Tryd.sizeOf20
  v20 := Tryd.zeroValue20
  t21 := Tryd.underlying21
  a21 := Tryd.isAgg21
  z21 := Tryd.sizeOf21
  v21 := Tryd.zeroValue21
  t37 := Tryd.underlying37
  a37 := Tryd.isAgg37
  z37 := Tryd.sizeOf37
  v37 := Tryd.zeroValue37
  t46 := Tryd.underlying90
  a46 := Tryd.isAgg90
  z46 := Tryd.sizeOf90
  v46 := Tryd.zeroValue90
  t51 := Tryd.underlying112
  a51 := Tryd.isAgg112
  z51 := Tryd.sizeOf112
  v51 := Tryd.zeroValue112
  t53 := Tryd.underlying101
  a53 := Tryd.isAgg101
  z53 := Tryd.sizeOf101
  v53 := Tryd.zeroValue101
  t75 := Tryd.underlying73
  a75 := Tryd.isAgg73
  z75 := Tryd.sizeOf73
  v75 := Tryd.zeroValue73
  t76 := Tryd.underlying74
  a76 := Tryd.isAgg74
  z76 := Tryd.sizeOf74
  v76 := Tryd.zeroValue74
  t85 := Tryd.underlying92
  a85 := Tryd.isAgg92
  z85 := Tryd.sizeOf92
  v85 := Tryd.zeroValue92
  t127 := Tryd.underlying80
  a127 := Tryd.isAgg80
  z127 := Tryd.sizeOf80
  v127 := Tryd.zeroValue80
  t143 := Tryd.underlying127
  a143 := Tryd.isAgg127
  z143 := Tryd.sizeOf127
  v143 := Tryd.zeroValue127
  t145 := Tryd.underlying129
  a145 := Tryd.isAgg129
  z145 := Tryd.sizeOf129
  v145 := Tryd.zeroValue129
  t167 := Tryd.underlying91
  a167 := Tryd.isAgg91
  z167 := Tryd.sizeOf91
  v167 := Tryd.zeroValue91
  t168 := Tryd.underlying94
  a168 := Tryd.isAgg94
  z168 := Tryd.sizeOf94
  v168 := Tryd.zeroValue94
  t171 := Tryd.underlying100
  a171 := Tryd.isAgg100
  z171 := Tryd.sizeOf100
  v171 := Tryd.zeroValue100
  t173 := Tryd.underlying104
  a173 := Tryd.isAgg104
  z173 := Tryd.sizeOf104
  v173 := Tryd.zeroValue104
  t175 := Tryd.underlying115
  a175 := Tryd.isAgg115
  z175 := Tryd.sizeOf115
  v175 := Tryd.zeroValue115
  t210 := Tryd.underlying118
  a210 := Tryd.isAgg118
  z210 := Tryd.sizeOf118
  v210 := Tryd.zeroValue118
  t212 := Tryd.underlying121
  a212 := Tryd.isAgg121
  z212 := Tryd.sizeOf121
  v212 := Tryd.zeroValue121
  t213 := Tryd.underlying122
  a213 := Tryd.isAgg122
  z213 := Tryd.sizeOf122
  t232 := Tryd.underlying135
  a232 := Tryd.isAgg135
  z232 := Tryd.sizeOf135
  v232 := Tryd.zeroValue135
  t233 := Tryd.underlying136
  a233 := Tryd.isAgg136
  z233 := Tryd.sizeOf136
  v233 := Tryd.zeroValue136
  g15 := by kernel_rfl
  g16 := by kernel_rfl
  g17 := by kernel_rfl
  g18 := by kernel_rfl
  g19 := by kernel_rfl
}
theorem Tryd.laysm171 : Go.Proofs.LaysM.n171 Tryd.prog Tryd.lays171_ren := { Tryd.lays171 with
  i0 := by kernel_rfl
  i2 := by kernel_rfl
  i3 := by kernel_rfl
  i4 := by kernel_rfl
  i5 := by kernel_rfl
  i9 := by kernel_rfl
  i20 := by kernel_rfl
  i37 := by kernel_rfl
  i46 := by kernel_rfl
  i51 := by kernel_rfl
  i53 := by kernel_rfl
  i171 := by kernel_rfl
  i173 := by kernel_rfl
  i212 := by kernel_rfl
  i232 := by kernel_rfl
  i233 := by kernel_rfl
  m17 := by kernel_rfl
  m18 := by kernel_rfl
  m19 := by kernel_rfl }
theorem Tryd.laysm172 : Go.Proofs.LaysM.n172 Tryd.prog Tryd.lays172_ren := { Tryd.lays172 with
  t80 := Tryd.underlying76
  a80 := Tryd.isAgg76
  z80 := Tryd.sizeOf76
  v80 := Tryd.zeroValue76
  i0 := by kernel_rfl
  i2 := by kernel_rfl
  i3 := by kernel_rfl
  i4 := by kernel_rfl
  i5 := by kernel_rfl
  i9 := by kernel_rfl
  i20 := by kernel_rfl
  i21 := by kernel_rfl
  i37 := by kernel_rfl
  i46 := by kernel_rfl
  i51 := by kernel_rfl
  i53 := by kernel_rfl
  i75 := by kernel_rfl
  i76 := by kernel_rfl
  i80 := by kernel_rfl
  i85 := by kernel_rfl
  i127 := by kernel_rfl
  i143 := by kernel_rfl
  i145 := by kernel_rfl
  i167 := by kernel_rfl
  i168 := by kernel_rfl
  i171 := by kernel_rfl
  i173 := by kernel_rfl
  i175 := by kernel_rfl
  i210 := by kernel_rfl
  i212 := by kernel_rfl
  i232 := by kernel_rfl
  i233 := by kernel_rfl
  m15 := by kernel_rfl
  m16 := by kernel_rfl
  m17 := by kernel_rfl
  m18 := by kernel_rfl
  m19 := by kernel_rfl }
theorem Tryd.laysc172 : Go.Proofs.LaysC.n172 Tryd.prog Tryd.lays172_ren := { Tryd.laysm172 with
  c0 := by kernel_rfl
  c2 := by kernel_rfl
  c3 := by kernel_rfl
  c4 := by kernel_rfl
  c5 := by kernel_rfl
  c9 := by kernel_rfl
  c20 := by kernel_rfl
  c21 := by kernel_rfl
  c37 := by kernel_rfl
  c46 := by kernel_rfl
  c51 := by kernel_rfl
  c53 := by kernel_rfl
  c75 := by kernel_rfl
  c76 := by kernel_rfl
  c80 := by kernel_rfl
  c85 := by kernel_rfl
  c127 := by kernel_rfl
  c143 := by kernel_rfl
  c145 := by kernel_rfl
  c167 := by kernel_rfl
  c168 := by kernel_rfl
  c171 := by kernel_rfl
  c173 := by kernel_rfl
  c175 := by kernel_rfl
  c210 := by kernel_rfl
  c212 := by kernel_rfl
  c213 := by kernel_rfl
  c232 := by kernel_rfl
  c233 := by kernel_rfl }
end Go.Proofs
end

-- SSc2
section
namespace Go.Proofs
open Go Go.Rw
set_option maxRecDepth 100000
set_option linter.unusedSimpArgs false
set_option linter.unusedVariables false

instance tabsS : Tabs where
  blk := fun g => Tryd.prog.globalNamed "internal/strconv.uint64pow10" = some g
  ok := fun w => Lib.TabIs Tryd.prog w "internal/strconv.uint64pow10" .u64 Lib.pow10Tab
  stable := fun w w' h hw => by
    unfold Lib.TabIs World.var? at hw ⊢
    cases hg : Tryd.prog.globalNamed "internal/strconv.uint64pow10" with
    | none => rw [hg] at hw; cases hw
    | some g => rw [hg] at hw; rw [Option.bind_some, h g hg]; exact hw
theorem stpre_good : Rw.Good Tryd.prog 33 tpreCon := tpre_good Tryd.lays101 rfl
theorem shas_good : Rw.Good Tryd.prog 28 hasCon := has_good Tryd.lays144 rfl
theorem sidx_good : Rw.Good Tryd.prog 43 idxCon := idx_good Tryd.lays219 rfl
theorem scnt_good : Rw.Good Tryd.prog 49 cntCon := cnt_good Tryd.lays138 rfl
theorem shasAny_good : Rw.Good Tryd.prog 39 hasAnyCon := hasAny_good Tryd.lays150 (by kernel_rfl) rfl
theorem sitoa_good : Rw.Good Tryd.prog 23 itoaCon := itoa_good Tryd.laysm171 (fun _ h => h) rfl
theorem satoi_good : Rw.Good Tryd.prog 34 atoiCon := atoi_good Tryd.laysc172 rfl
/-- A text cut at the first c. -/
def cutB (c : UInt8) : List UInt8 → List UInt8 × List UInt8 × Bool
  | [] => ([], [], false)
  | b :: r => if b = c then ([], r, true) else (b :: (cutB c r).1, (cutB c r).2.1, (cutB c r).2.2)
theorem cut_idx (c : UInt8) : ∀ s : List UInt8, (Lib.indexByte s c = -1 ∧ cutB c s = (s, [], false)) ∨ ∃ i : Nat, Lib.indexByte s c = i ∧ i < s.length ∧ cutB c s = (s.take i, s.drop (i + 1), true)
  | [] => .inl ⟨rfl, rfl⟩
  | b :: r => by
    by_cases h : b = c
    · subst h
      exact .inr ⟨0, by simp [Lib.indexByte], by simp, by simp [cutB]⟩
    · have hb : (b == c) = false := by simpa using h
      rcases cut_idx c r with ⟨h1, h2⟩ | ⟨i, h1, h2, h3⟩
      · exact .inl ⟨by simp [Lib.indexByte, hb, h1], by simp [cutB, h, h2]⟩
      · refine .inr ⟨i + 1, ?_, by simpa using h2, by simp [cutB, h, h3]⟩
        have : ((i : Int) == -1) = false := by simp
        simp [Lib.indexByte, hb, h1, this]
abbrev cutCon : Con where
  ι := { p : List UInt8 × UInt8 // p.1.length ≤ 1099511627776 }
  args := fun p => [.v (sv p.1.1), .v (sv [p.1.2])]
  post := fun p r => r = .tup [.v (sv (cutB p.1.2 p.1.1).1), .v (sv (cutB p.1.2 p.1.1).2.1), .v (.bool (cutB p.1.2 p.1.1).2.2)]
  plain := true
theorem lcut_good : Rw.Good Tryd.prog 32 cutCon := by
  have hΓ : GoodEnv Tryd.prog [(43, idxCon)] := (goodEnv_cons sidx_good goodEnv_nil)
  refine good_fn (nn := 23) hΓ Tryd.func32 (by kernel_rfl) rfl (show Tryd.f32.results.toList = [.tmp 4, .tmp 5, .tmp 6] from rfl) (fun _ => rfl) (fun x => by simp [AV.erL, AV.er]) ?_
  rintro ⟨⟨s, c⟩, hs⟩
  simp only at hs
  simp only [goRules, coreRules, tiRules, unRules, AS_of_eq, ← decide_not, seval]
  refine vcCall_plain (C := idxCon) (i := (s, c)) (by simp [get_cons]) rfl rfl rfl (by simp [AV.erL, AV.er]) (fun _ h => h) rfl ?_
  rcases cut_idx c s with ⟨h1, h2⟩ | ⟨i, h1, h2, h3⟩
  · simp only [goRules, coreRules, tiRules, unRules, AS_of_eq, ← decide_not, seval, h1, h2]
  · simp only [goRules, coreRules, tiRules, unRules, AS_of_eq, ← decide_not, seval, h1, h3, show ((i : Int) ≥ 0) = True from eq_true (by omega), wrap_i64 (n := (i : Int) + 1) (by omega) (by omega)]
    (repeat (with_reducible refine And.intro ?_ ?_; focus (first | omega | exact mixed1 | kernel_rfl)))
    have e1 : ((i : Int) + 1).toNat = i + 1 := by omega
    have e2 := List.take_of_length_le (l := List.drop (i + 1) s) (i := s.length - (i + 1)) (by rw [List.length_drop]; omega)
    rw [e1, Nat.sub_zero, e2]
theorem scut_good : Rw.Good Tryd.prog 16 cutCon := by
  have hΓ : GoodEnv Tryd.prog [(32, cutCon)] := (goodEnv_cons lcut_good goodEnv_nil)
  refine good_fn (nn := 13) hΓ Tryd.func16 (by kernel_rfl) rfl (show Tryd.f16.results.toList = [.tmp 4, .tmp 5, .tmp 6] from rfl) (fun _ => rfl) (fun x => by simp [AV.erL, AV.er]) ?_
  rintro ⟨⟨s, c⟩, hs⟩
  simp only at hs
  simp only [goRules, coreRules, tiRules, unRules, AS_of_eq, ← decide_not, seval]
  refine vcCall_plain (C := cutCon) (i := ⟨(s, c), hs⟩) (by simp [get_cons]) rfl rfl rfl (by simp [AV.erL, AV.er]) (fun _ h => h) rfl ?_
  simp only [goRules, coreRules, tiRules, unRules, AS_of_eq, ← decide_not, seval]
theorem cut_len (c : UInt8) : ∀ s : List UInt8, (cutB c s).1.length ≤ s.length ∧ (cutB c s).2.1.length ≤ s.length
  | [] => by simp [cutB]
  | b :: r => by
    have := cut_len c r
    unfold cutB
    split
    · simp
    · simp only [List.length_cons]; omega
/-- A text's word. -/
def txtW (s : List UInt8) : List UInt8 := if s = [] then [45] else 61 :: s
abbrev StrK := { s : List UInt8 // s.length ≤ 1000000 }
abbrev txtCon : Con where
  ι := StrK
  args := fun s => [.v (sv s.1)]
  post := fun s r => r = .v (sv (txtW s.1))
  plain := true
theorem stext_good : Rw.Good Tryd.prog 27 txtCon := by
  have hΓ : GoodEnv Tryd.prog [] := goodEnv_nil
  refine good_fn (nn := 7) hΓ Tryd.func27 (by kernel_rfl) rfl (show Tryd.f27.results.toList = [.tmp 2] from rfl) (fun _ => rfl) (fun x => by simp [AV.erL, AV.er]) ?_
  rintro ⟨s, hs⟩
  by_cases h : s = []
  · subst h
    simp only [goRules, coreRules, tiRules, unRules, AS_of_eq, ← decide_not, seval]
    rfl
  · simp only [goRules, coreRules, tiRules, unRules, AS_of_eq, ← decide_not, seval, h, bin_sadd (l := [61]) (r := s) (by simp only [List.length_cons, List.length_nil]; omega), List.cons_append, List.nil_append]
    simp [txtW, h]
def kindW (b : Bool) : List UInt8 := if b then [100, 105, 114] else [102, 105, 108, 101]
abbrev kindCon : Con where
  ι := Bool
  args := fun b => [.v (.bool b)]
  post := fun b r => r = .v (sv (kindW b))
  plain := true
theorem skind_good : Rw.Good Tryd.prog 26 kindCon := by
  have hΓ : GoodEnv Tryd.prog [] := goodEnv_nil
  refine good_fn (nn := 4) hΓ Tryd.func26 (by kernel_rfl) rfl (show Tryd.f26.results.toList = [.tmp 2] from rfl) (fun _ => rfl) (fun x => by simp [AV.erL, AV.er]) ?_
  rintro (_ | _)
  · simp only [goRules, coreRules, tiRules, unRules, AS_of_eq, ← decide_not, seval]
    rfl
  · simp only [goRules, coreRules, tiRules, unRules, AS_of_eq, ← decide_not, seval]
    rfl
abbrev fitsS (n : Int) : Prop := 0 ≤ n ∧ n ≤ 2147483647
abbrev sfitsCon : Con where
  ι := Int
  args := fun n => [.v (.int .i64 n)]
  post := fun n r => r = .v (.bool (decide (fitsS n)))
  plain := true
theorem sfits_good : Rw.Good Tryd.prog 24 sfitsCon := by
  have hΓ : GoodEnv Tryd.prog [] := goodEnv_nil
  refine good_fn (nn := 9) hΓ Tryd.func24 (by kernel_rfl) rfl (show Tryd.f24.results.toList = [.tmp 2] from rfl) (fun _ => rfl) (fun x => by simp [AV.erL, AV.er]) ?_
  intro n
  by_cases h1 : 0 ≤ n
  case neg => simp only [goRules, coreRules, tiRules, unRules, AS_of_eq, ← decide_not, seval, h1, fitsS, false_and]
  by_cases h2 : n ≤ 2147483647
  · simp only [goRules, coreRules, tiRules, unRules, AS_of_eq, ← decide_not, seval, h1, h2, fitsS, and_self]
  · simp only [goRules, coreRules, tiRules, unRules, AS_of_eq, ← decide_not, seval, h1, h2, fitsS, and_false]
/-- A text may stand as a name. -/
def nameB (s : List UInt8) : Bool := decide (1 ≤ s.length ∧ s.length ≤ 100) && !Lib.containsAny s [32, 10]
abbrev isNameCon : Con where
  ι := { s : List UInt8 // s.length ≤ 1000000 ∧ ∀ b ∈ s, b.toNat < 128 }
  args := fun s => [.v (sv s.1)]
  post := fun s r => r = .v (.bool (nameB s.1))
  plain := true
theorem sisName_good : Rw.Good Tryd.prog 25 isNameCon := by
  have hΓ : GoodEnv Tryd.prog [(39, hasAnyCon)] := (goodEnv_cons shasAny_good goodEnv_nil)
  refine good_fn (nn := 16) hΓ Tryd.func25 (by kernel_rfl) rfl (show Tryd.f25.results.toList = [.tmp 2] from rfl) (fun _ => rfl) (fun x => by simp [AV.erL, AV.er]) ?_
  rintro ⟨s, hs, ha⟩
  by_cases h1 : 1 ≤ s.length
  case neg =>
    simp only [goRules, coreRules, tiRules, unRules, AS_of_eq, ← decide_not, seval, show ((s.length : Int) ≥ 1) = False from eq_false (by omega)]
    simp [nameB, h1]
  by_cases h2 : s.length ≤ 100
  case neg =>
    simp only [goRules, coreRules, tiRules, unRules, AS_of_eq, ← decide_not, seval, show ((s.length : Int) ≥ 1) = True from eq_true (by omega), show ((s.length : Int) ≤ 100) = False from eq_false (by omega)]
    simp [nameB, h2]
  simp only [goRules, coreRules, tiRules, unRules, AS_of_eq, ← decide_not, seval, show ((s.length : Int) ≥ 1) = True from eq_true (by omega), show ((s.length : Int) ≤ 100) = True from eq_true (by omega)]
  refine vcCall_plain (C := hasAnyCon) (i := ⟨(s, [32, 10]), ⟨by simp only; omega, by simp⟩, ha, by simp⟩) (by simp [get_cons]) rfl rfl rfl (by simp [AV.erL, AV.er]) (fun _ h => h) rfl ?_
  simp only [goRules, coreRules, tiRules, unRules, AS_of_eq, ← decide_not, seval]
  simp [nameB, h1, h2]
/-- The kinds' words, and their fields. -/
def tabW : List (List UInt8) := [[], [], [99, 114, 101, 97, 116, 101], [99, 105, 112, 110, 100], [114, 101, 109, 111, 118, 101], [99, 105], [109, 111, 118, 101], [99, 105, 112, 110], [101, 100, 105, 116], [99, 105, 102, 116, 120], [115, 101, 110, 100], [99], [100, 101, 108, 105, 118, 101, 114], [107], [108, 111, 115, 101], [107], [100, 111, 117, 98, 108, 101], [107], [102, 97, 105, 114], [107], [118, 105, 101, 119], [99], [116, 114, 101, 101], [], [114, 101, 118], [99], [108, 111, 115, 116], [99], [99, 117, 116], [107], [114, 101, 115, 116, 97, 114, 116], [108], [119, 97, 105, 116, 105, 110, 103], []]
abbrev wordsCon : Con where
  ι := Unit
  args := fun _ => []
  post := fun _ r => r = .agg (tabW.map fun s => .v (sv s))
  plain := true
theorem swords_good : Rw.Good Tryd.prog 13 wordsCon := by
  have hΓ : GoodEnv Tryd.prog [] := goodEnv_nil
  refine good_fn (nn := 18) hΓ Tryd.func13 (by kernel_rfl) rfl (show Tryd.f13.results.toList = [.cell 0 45] from rfl) (fun _ => rfl) (fun x => by simp [AV.erL, AV.er]) ?_
  rintro ⟨⟩
  simp only [goRules, coreRules, tiRules, unRules, AS_of_eq, ← decide_not, seval, List.map_cons, List.map_nil, List.drop_succ_cons, List.drop_zero, List.length_cons, List.length_nil]
  rfl
abbrev replCon : Con where
  ι := { p : List UInt8 × UInt8 × UInt8 // p.1.length ≤ 1000000 ∧ p.2.1 ∉ p.1 ∧ p.2.1 ≠ p.2.2 }
  args := fun p => [.v (sv p.1.1), .v (sv [p.1.2.1]), .v (sv [p.1.2.2]), .v (.int .i64 (-1))]
  post := fun p r => r = .v (sv p.1.1)
  plain := true
theorem srepl_good : Rw.Good Tryd.prog 47 replCon := by
  have hΓ : GoodEnv Tryd.prog [(49, cntCon)] := (goodEnv_cons scnt_good goodEnv_nil)
  refine good_fn (nn := 104) hΓ Tryd.func47 (by kernel_rfl) rfl (show Tryd.f47.results.toList = [.tmp 8] from rfl) (fun _ => rfl) (fun x => by simp [AV.erL, AV.er]) ?_
  rintro ⟨⟨s, c, d⟩, hs, hc, hd⟩
  simp only at hs hc hd
  have h0 : Lib.countByte s c = 0 := List.count_eq_zero.2 hc
  have hd' : ([c] = [d]) = False := eq_false (by simpa using hd)
  simp only [goRules, coreRules, tiRules, unRules, AS_of_eq, ← decide_not, seval, hd']
  refine vcCall_plain (C := cntCon) (i := (s, c)) (by simp [get_cons]) rfl rfl rfl (by simp [AV.erL, AV.er]) (fun _ h => h) rfl ?_
  simp only [goRules, coreRules, tiRules, unRules, AS_of_eq, ← decide_not, seval, h0]
abbrev replACon : Con where
  ι := { p : List UInt8 × UInt8 × UInt8 // p.1.length ≤ 1000000 ∧ p.2.1 ∉ p.1 ∧ p.2.1 ≠ p.2.2 }
  args := fun p => [.v (sv p.1.1), .v (sv [p.1.2.1]), .v (sv [p.1.2.2])]
  post := fun p r => r = .v (sv p.1.1)
  plain := true
theorem sreplA_good : Rw.Good Tryd.prog 35 replACon := by
  have hΓ : GoodEnv Tryd.prog [(47, replCon)] := (goodEnv_cons srepl_good goodEnv_nil)
  refine good_fn (nn := 11) hΓ Tryd.func35 (by kernel_rfl) rfl (show Tryd.f35.results.toList = [.tmp 6] from rfl) (fun _ => rfl) (fun x => by simp [AV.erL, AV.er]) ?_
  intro p
  simp only [goRules, coreRules, tiRules, unRules, AS_of_eq, ← decide_not, seval]
  refine vcCall_plain (C := replCon) (i := p) (by simp [get_cons]) rfl rfl rfl (by simp [AV.erL, AV.er]) (fun _ h => h) rfl ?_
  simp only [goRules, coreRules, tiRules, unRules, AS_of_eq, ← decide_not, seval]
end Go.Proofs
end

-- SSc3
section
namespace Go.Proofs
open Go.Shelf
theorem Tryd.builderX : Builder.Extra Tryd.prog Tryd.lays156_ren where
  sizeBuilder := by kernel_rfl
  liesBuilder := by kernel_rfl
  t5 := Tryd.underlying5
  a5 := Tryd.isAgg5
  z5 := Tryd.sizeOf5
  v5 := Tryd.zeroValue5
  infoByte := by kernel_rfl
  cellsByte := by kernel_rfl
  sizeByte := by kernel_rfl
  neB5 := by decide
end Go.Proofs
namespace Go.Proofs
open Go Go.Rw
set_option maxRecDepth 100000
set_option linter.unusedSimpArgs false
set_option linter.unusedVariables false

theorem sjoin_good : Rw.Good Tryd.prog 15 joinCon := join_good Tryd.lays156 Tryd.builderX rfl
/-- An op without edits and without a list (za, zb: how the two empty rows' elements are told). -/
structure So where
  kind : Int
  cl : Int
  ak : Int
  id : Int
  par : Int
  nm : List UInt8
  dir : Bool
  n : Int
  fr : Int
  to : Int
  text : List UInt8
  za : Nat
  zb : Nat
  deriving DecidableEq
def opC (o : So) : List AV := [.v (.int .i64 o.kind), .v (.int .i64 o.cl), .v (.int .i64 o.ak), .v (.int .i64 o.id), .v (.int .i64 o.par), .v (sv o.nm), .v (.bool o.dir), .sl 0 o.za [], .v (.int .i64 o.n), .v (.int .i64 o.fr), .v (.int .i64 o.to), .v (sv o.text), .sl 0 o.zb []]
/-- Where a number's field stands. -/
def numP (o : Nat) (f : Int) : AV := if f = 99 then .ptr o 1 else if f = 105 then .ptr o 3 else if f = 112 then .ptr o 4 else if f = 102 then .ptr o 9 else if f = 116 then .ptr o 10 else if f = 107 then .ptr o 8 else .v (.pointer none)
section
variable {Γ : Env} {n : Nat} {t : Nat → AV} {hd : Nat → Nat → AV} {d : Option Nat} {K : AS → Prop} {nh nl : Nat} {h : Nat → Option AO} {fm : Nat → Nat} {lv : Nat → Option (Nat × Nat)} {mu : Bool}
theorem call_num (hΓ : GoodEnv Tryd.prog Γ) (hC : Γ.get 22 = none) {x : So} {o : Nat} (hob : h o = some (.cells (opC x))) {f : Int}
    (hk : cont ⟨n, t, hd, ⟨nh, h, nl, fm, lv, mu⟩⟩ d (numP o f) K) : vcCall Tryd.prog Γ false ⟨n, t, hd, ⟨nh, h, nl, fm, lv, mu⟩⟩ 22 [.ptr o 0, .v (.int .i32 f)] d K := by
  unfold numP at hk
  refine vcCall_inlM (nn := 38) hΓ [] (by first | assumption | simp [get_cons, get_nil]) Tryd.func22 (by kernel_rfl) rfl (show Tryd.f22.results.toList = [.tmp 4] from rfl) rfl ?_
  by_cases h1 : f = 99
  · rw [if_pos h1] at hk
    simp only [goRules, coreRules, tiRules, unRules, AS_of_eq, ← decide_not, seval, mapRules, objRules, h1]
    exact hk
  rw [if_neg h1] at hk
  by_cases h2 : f = 105
  · rw [if_pos h2] at hk
    simp only [goRules, coreRules, tiRules, unRules, AS_of_eq, ← decide_not, seval, mapRules, objRules, h1, h2]
    exact hk
  rw [if_neg h2] at hk
  by_cases h3 : f = 112
  · rw [if_pos h3] at hk
    simp only [goRules, coreRules, tiRules, unRules, AS_of_eq, ← decide_not, seval, mapRules, objRules, h1, h2, h3]
    exact hk
  rw [if_neg h3] at hk
  by_cases h4 : f = 102
  · rw [if_pos h4] at hk
    simp only [goRules, coreRules, tiRules, unRules, AS_of_eq, ← decide_not, seval, mapRules, objRules, h1, h2, h3, h4]
    exact hk
  rw [if_neg h4] at hk
  by_cases h5 : f = 116
  · rw [if_pos h5] at hk
    simp only [goRules, coreRules, tiRules, unRules, AS_of_eq, ← decide_not, seval, mapRules, objRules, h1, h2, h3, h4, h5]
    exact hk
  rw [if_neg h5] at hk
  by_cases h6 : f = 107
  · rw [if_pos h6] at hk
    simp only [goRules, coreRules, tiRules, unRules, AS_of_eq, ← decide_not, seval, mapRules, objRules, h1, h2, h3, h4, h5, h6]
    exact hk
  rw [if_neg h6] at hk
  simp only [goRules, coreRules, tiRules, unRules, AS_of_eq, ← decide_not, seval, mapRules, objRules, h1, h2, h3, h4, h5, h6]
  exact hk
end
/-- The letters of fields. -/
def lets : List UInt8 := [99, 105, 112, 102, 116, 107, 110, 100, 120, 108]
def numF (x : So) (f : UInt8) : Option Int := if f = 99 then some x.cl else if f = 105 then some x.id else if f = 112 then some x.par else if f = 102 then some x.fr else if f = 116 then some x.to else if f = 107 then some x.n else none
/-- A field's words, if it may be. -/
def fieldF (x : So) (f : UInt8) : List (List UInt8) × Bool := match numF x f with
  | some n => ([Lib.itoa n], decide (fitsS n))
  | none => if f = 110 then ([x.nm], nameB x.nm) else if f = 100 then ([kindW x.dir], true) else if f = 120 then ([txtW x.text], decide (x.text.length ≤ 4000) && !decide (0 ≤ Lib.indexByte x.text 10)) else ([], true)
abbrev okSo (x : So) : Prop := (x.nm.length ≤ 1000000 ∧ ∀ b ∈ x.nm, b.toNat < 128) ∧ x.text.length ≤ 1000000 ∧ (∀ n ∈ [x.cl, x.id, x.par, x.fr, x.to, x.n], -9223372036854775808 ≤ n ∧ n ≤ 9223372036854775807)
abbrev fieldCon : ConO where
  ι := { p : So × UInt8 // okSo p.1 ∧ p.2 ∈ lets }
  objs := fun p => [.cells (opC p.1.1)]
  args := fun p => [.ptr 0 0, .v (.int .i32 p.1.2.toNat)]
  post := fun p objs lvs r => objs = [.cells (opC p.1.1)] ∧ lvs = [] ∧ r = .tup [.sl 0 1 (strsA (fieldF p.1.1 p.1.2).1), .v (.bool (fieldF p.1.1 p.1.2).2)]
set_option maxHeartbeats 4000000 in
theorem sfield_good : GoodO Tryd.prog 14 fieldCon := by
  have hΓ : GoodEnv Tryd.prog [(23, itoaCon), (24, sfitsCon), (25, isNameCon), (26, kindCon), (27, txtCon), (28, hasCon)] := (goodEnv_cons sitoa_good (goodEnv_cons sfits_good (goodEnv_cons sisName_good (goodEnv_cons skind_good (goodEnv_cons stext_good (goodEnv_cons shas_good goodEnv_nil))))))
  refine goodO_fna (nn := 88) Tryd.func14 (by kernel_rfl) rfl (show Tryd.f14.results.toList = [.tmp 4, .tmp 5] from rfl) (fun _ => rfl) ?_
  rintro ⟨⟨x, f⟩, ⟨⟨hn1, hn2⟩, ht, hi⟩, hf⟩
  simp only at hn1 hn2 ht hi hf
  refine vcM_ok hΓ (Ws := []) _ ?_
  simp only [goRules, coreRules, tiRules, unRules, AS_of_eq, ← decide_not, seval, mapRules, objRules, opC]
  refine call_num hΓ (by simp [get_cons, get_nil]) (x := x) (o := 0) (by simp [opC]) ?_
  simp only [lets, List.mem_cons, List.not_mem_nil, or_false] at hf
  rcases hf with rfl | rfl | rfl | rfl | rfl | rfl | rfl | rfl | rfl | rfl
  · simp only [goRules, coreRules, tiRules, unRules, AS_of_eq, ← decide_not, seval, mapRules, objRules, opC, numP]
    (repeat (with_reducible refine And.intro ?_ ?_; focus (first | omega | exact mixed1 | kernel_rfl)))
    refine vcCall_plain (C := itoaCon) (i := ⟨x.cl, hi _ (by simp)⟩) (by simp [get_cons]) rfl rfl rfl (by simp [AV.erL, AV.er]) (fun _ h => h) rfl ?_
    simp only [goRules, coreRules, tiRules, unRules, AS_of_eq, ← decide_not, seval, mapRules, objRules, opC]
    (repeat (with_reducible refine And.intro ?_ ?_; focus (first | omega | exact mixed1 | kernel_rfl)))
    refine vcCall_plain (C := sfitsCon) (i := x.cl) (by simp [get_cons]) rfl rfl rfl (by simp [AV.erL, AV.er]) (fun _ h => h) rfl ?_
    simp only [goRules, coreRules, tiRules, unRules, AS_of_eq, ← decide_not, seval, mapRules, objRules, opC]
    (repeat (with_reducible refine And.intro ?_ ?_; focus (first | omega | exact mixed1 | kernel_rfl)))
    have e : fieldF x 99 = ([Lib.itoa x.cl], decide (fitsS x.cl)) := rfl
    refine retG_go [0] [] [.cells (opC x)] [] (.tup [.sl 0 1 (strsA (fieldF x 99).1), .v (.bool (fieldF x 99).2)]) ⟨rfl, rfl, rfl⟩ ?_
    simp only [goRules, coreRules, tiRules, unRules, AS_of_eq, ← decide_not, seval, mapRules, objRules, opC, e, strsA, List.map_cons, List.map_nil] <;> ((repeat' apply And.intro) <;> first | rfl | omega | trivial)
  · simp only [goRules, coreRules, tiRules, unRules, AS_of_eq, ← decide_not, seval, mapRules, objRules, opC, numP]
    (repeat (with_reducible refine And.intro ?_ ?_; focus (first | omega | exact mixed1 | kernel_rfl)))
    refine vcCall_plain (C := itoaCon) (i := ⟨x.id, hi _ (by simp)⟩) (by simp [get_cons]) rfl rfl rfl (by simp [AV.erL, AV.er]) (fun _ h => h) rfl ?_
    simp only [goRules, coreRules, tiRules, unRules, AS_of_eq, ← decide_not, seval, mapRules, objRules, opC]
    (repeat (with_reducible refine And.intro ?_ ?_; focus (first | omega | exact mixed1 | kernel_rfl)))
    refine vcCall_plain (C := sfitsCon) (i := x.id) (by simp [get_cons]) rfl rfl rfl (by simp [AV.erL, AV.er]) (fun _ h => h) rfl ?_
    simp only [goRules, coreRules, tiRules, unRules, AS_of_eq, ← decide_not, seval, mapRules, objRules, opC]
    (repeat (with_reducible refine And.intro ?_ ?_; focus (first | omega | exact mixed1 | kernel_rfl)))
    have e : fieldF x 105 = ([Lib.itoa x.id], decide (fitsS x.id)) := rfl
    refine retG_go [0] [] [.cells (opC x)] [] (.tup [.sl 0 1 (strsA (fieldF x 105).1), .v (.bool (fieldF x 105).2)]) ⟨rfl, rfl, rfl⟩ ?_
    simp only [goRules, coreRules, tiRules, unRules, AS_of_eq, ← decide_not, seval, mapRules, objRules, opC, e, strsA, List.map_cons, List.map_nil] <;> ((repeat' apply And.intro) <;> first | rfl | omega | trivial)
  · simp only [goRules, coreRules, tiRules, unRules, AS_of_eq, ← decide_not, seval, mapRules, objRules, opC, numP]
    (repeat (with_reducible refine And.intro ?_ ?_; focus (first | omega | exact mixed1 | kernel_rfl)))
    refine vcCall_plain (C := itoaCon) (i := ⟨x.par, hi _ (by simp)⟩) (by simp [get_cons]) rfl rfl rfl (by simp [AV.erL, AV.er]) (fun _ h => h) rfl ?_
    simp only [goRules, coreRules, tiRules, unRules, AS_of_eq, ← decide_not, seval, mapRules, objRules, opC]
    (repeat (with_reducible refine And.intro ?_ ?_; focus (first | omega | exact mixed1 | kernel_rfl)))
    refine vcCall_plain (C := sfitsCon) (i := x.par) (by simp [get_cons]) rfl rfl rfl (by simp [AV.erL, AV.er]) (fun _ h => h) rfl ?_
    simp only [goRules, coreRules, tiRules, unRules, AS_of_eq, ← decide_not, seval, mapRules, objRules, opC]
    (repeat (with_reducible refine And.intro ?_ ?_; focus (first | omega | exact mixed1 | kernel_rfl)))
    have e : fieldF x 112 = ([Lib.itoa x.par], decide (fitsS x.par)) := rfl
    refine retG_go [0] [] [.cells (opC x)] [] (.tup [.sl 0 1 (strsA (fieldF x 112).1), .v (.bool (fieldF x 112).2)]) ⟨rfl, rfl, rfl⟩ ?_
    simp only [goRules, coreRules, tiRules, unRules, AS_of_eq, ← decide_not, seval, mapRules, objRules, opC, e, strsA, List.map_cons, List.map_nil] <;> ((repeat' apply And.intro) <;> first | rfl | omega | trivial)
  · simp only [goRules, coreRules, tiRules, unRules, AS_of_eq, ← decide_not, seval, mapRules, objRules, opC, numP]
    (repeat (with_reducible refine And.intro ?_ ?_; focus (first | omega | exact mixed1 | kernel_rfl)))
    refine vcCall_plain (C := itoaCon) (i := ⟨x.fr, hi _ (by simp)⟩) (by simp [get_cons]) rfl rfl rfl (by simp [AV.erL, AV.er]) (fun _ h => h) rfl ?_
    simp only [goRules, coreRules, tiRules, unRules, AS_of_eq, ← decide_not, seval, mapRules, objRules, opC]
    (repeat (with_reducible refine And.intro ?_ ?_; focus (first | omega | exact mixed1 | kernel_rfl)))
    refine vcCall_plain (C := sfitsCon) (i := x.fr) (by simp [get_cons]) rfl rfl rfl (by simp [AV.erL, AV.er]) (fun _ h => h) rfl ?_
    simp only [goRules, coreRules, tiRules, unRules, AS_of_eq, ← decide_not, seval, mapRules, objRules, opC]
    (repeat (with_reducible refine And.intro ?_ ?_; focus (first | omega | exact mixed1 | kernel_rfl)))
    have e : fieldF x 102 = ([Lib.itoa x.fr], decide (fitsS x.fr)) := rfl
    refine retG_go [0] [] [.cells (opC x)] [] (.tup [.sl 0 1 (strsA (fieldF x 102).1), .v (.bool (fieldF x 102).2)]) ⟨rfl, rfl, rfl⟩ ?_
    simp only [goRules, coreRules, tiRules, unRules, AS_of_eq, ← decide_not, seval, mapRules, objRules, opC, e, strsA, List.map_cons, List.map_nil] <;> ((repeat' apply And.intro) <;> first | rfl | omega | trivial)
  · simp only [goRules, coreRules, tiRules, unRules, AS_of_eq, ← decide_not, seval, mapRules, objRules, opC, numP]
    (repeat (with_reducible refine And.intro ?_ ?_; focus (first | omega | exact mixed1 | kernel_rfl)))
    refine vcCall_plain (C := itoaCon) (i := ⟨x.to, hi _ (by simp)⟩) (by simp [get_cons]) rfl rfl rfl (by simp [AV.erL, AV.er]) (fun _ h => h) rfl ?_
    simp only [goRules, coreRules, tiRules, unRules, AS_of_eq, ← decide_not, seval, mapRules, objRules, opC]
    (repeat (with_reducible refine And.intro ?_ ?_; focus (first | omega | exact mixed1 | kernel_rfl)))
    refine vcCall_plain (C := sfitsCon) (i := x.to) (by simp [get_cons]) rfl rfl rfl (by simp [AV.erL, AV.er]) (fun _ h => h) rfl ?_
    simp only [goRules, coreRules, tiRules, unRules, AS_of_eq, ← decide_not, seval, mapRules, objRules, opC]
    (repeat (with_reducible refine And.intro ?_ ?_; focus (first | omega | exact mixed1 | kernel_rfl)))
    have e : fieldF x 116 = ([Lib.itoa x.to], decide (fitsS x.to)) := rfl
    refine retG_go [0] [] [.cells (opC x)] [] (.tup [.sl 0 1 (strsA (fieldF x 116).1), .v (.bool (fieldF x 116).2)]) ⟨rfl, rfl, rfl⟩ ?_
    simp only [goRules, coreRules, tiRules, unRules, AS_of_eq, ← decide_not, seval, mapRules, objRules, opC, e, strsA, List.map_cons, List.map_nil] <;> ((repeat' apply And.intro) <;> first | rfl | omega | trivial)
  · simp only [goRules, coreRules, tiRules, unRules, AS_of_eq, ← decide_not, seval, mapRules, objRules, opC, numP]
    (repeat (with_reducible refine And.intro ?_ ?_; focus (first | omega | exact mixed1 | kernel_rfl)))
    refine vcCall_plain (C := itoaCon) (i := ⟨x.n, hi _ (by simp)⟩) (by simp [get_cons]) rfl rfl rfl (by simp [AV.erL, AV.er]) (fun _ h => h) rfl ?_
    simp only [goRules, coreRules, tiRules, unRules, AS_of_eq, ← decide_not, seval, mapRules, objRules, opC]
    (repeat (with_reducible refine And.intro ?_ ?_; focus (first | omega | exact mixed1 | kernel_rfl)))
    refine vcCall_plain (C := sfitsCon) (i := x.n) (by simp [get_cons]) rfl rfl rfl (by simp [AV.erL, AV.er]) (fun _ h => h) rfl ?_
    simp only [goRules, coreRules, tiRules, unRules, AS_of_eq, ← decide_not, seval, mapRules, objRules, opC]
    (repeat (with_reducible refine And.intro ?_ ?_; focus (first | omega | exact mixed1 | kernel_rfl)))
    have e : fieldF x 107 = ([Lib.itoa x.n], decide (fitsS x.n)) := rfl
    refine retG_go [0] [] [.cells (opC x)] [] (.tup [.sl 0 1 (strsA (fieldF x 107).1), .v (.bool (fieldF x 107).2)]) ⟨rfl, rfl, rfl⟩ ?_
    simp only [goRules, coreRules, tiRules, unRules, AS_of_eq, ← decide_not, seval, mapRules, objRules, opC, e, strsA, List.map_cons, List.map_nil] <;> ((repeat' apply And.intro) <;> first | rfl | omega | trivial)
  · simp only [goRules, coreRules, tiRules, unRules, AS_of_eq, ← decide_not, seval, mapRules, objRules, opC, numP]
    (repeat (with_reducible refine And.intro ?_ ?_; focus (first | omega | exact mixed1 | kernel_rfl)))
    refine vcCall_plain (C := isNameCon) (i := ⟨x.nm, hn1, hn2⟩) (by simp [get_cons]) rfl rfl rfl (by simp [AV.erL, AV.er]) (fun _ h => h) rfl ?_
    simp only [goRules, coreRules, tiRules, unRules, AS_of_eq, ← decide_not, seval, mapRules, objRules, opC]
    (repeat (with_reducible refine And.intro ?_ ?_; focus (first | omega | exact mixed1 | kernel_rfl)))
    have e : fieldF x 110 = ([x.nm], nameB x.nm) := rfl
    refine retG_go [0] [] [.cells (opC x)] [] (.tup [.sl 0 1 (strsA (fieldF x 110).1), .v (.bool (fieldF x 110).2)]) ⟨rfl, rfl, rfl⟩ ?_
    simp only [goRules, coreRules, tiRules, unRules, AS_of_eq, ← decide_not, seval, mapRules, objRules, opC, e, strsA, List.map_cons, List.map_nil] <;> ((repeat' apply And.intro) <;> first | rfl | omega | trivial)
  · simp only [goRules, coreRules, tiRules, unRules, AS_of_eq, ← decide_not, seval, mapRules, objRules, opC, numP]
    (repeat (with_reducible refine And.intro ?_ ?_; focus (first | omega | exact mixed1 | kernel_rfl)))
    refine vcCall_plain (C := kindCon) (i := x.dir) (by simp [get_cons]) rfl rfl rfl (by simp [AV.erL, AV.er]) (fun _ h => h) rfl ?_
    simp only [goRules, coreRules, tiRules, unRules, AS_of_eq, ← decide_not, seval, mapRules, objRules, opC]
    (repeat (with_reducible refine And.intro ?_ ?_; focus (first | omega | exact mixed1 | kernel_rfl)))
    have e : fieldF x 100 = ([kindW x.dir], true) := rfl
    refine retG_go [0] [] [.cells (opC x)] [] (.tup [.sl 0 1 (strsA (fieldF x 100).1), .v (.bool (fieldF x 100).2)]) ⟨rfl, rfl, rfl⟩ ?_
    simp only [goRules, coreRules, tiRules, unRules, AS_of_eq, ← decide_not, seval, mapRules, objRules, opC, e, strsA, List.map_cons, List.map_nil] <;> ((repeat' apply And.intro) <;> first | rfl | omega | trivial)
  · simp only [goRules, coreRules, tiRules, unRules, AS_of_eq, ← decide_not, seval, mapRules, objRules, opC, numP]
    (repeat (with_reducible refine And.intro ?_ ?_; focus (first | omega | exact mixed1 | kernel_rfl)))
    refine vcCall_plain (C := txtCon) (i := ⟨x.text, ht⟩) (by simp [get_cons]) rfl rfl rfl (by simp [AV.erL, AV.er]) (fun _ h => h) rfl ?_
    have e : fieldF x 120 = ([txtW x.text], decide (x.text.length ≤ 4000) && !decide (0 ≤ Lib.indexByte x.text 10)) := rfl
    by_cases h4 : x.text.length ≤ 4000
    · simp only [goRules, coreRules, tiRules, unRules, AS_of_eq, ← decide_not, seval, mapRules, objRules, opC, show ((x.text.length : Int) ≤ 4000) = True from eq_true (by omega)]
      (repeat (with_reducible refine And.intro ?_ ?_; focus (first | omega | exact mixed1 | kernel_rfl)))
      refine vcCall_plain (C := hasCon) (i := (x.text, 10)) (by simp [get_cons]) rfl rfl rfl (by simp [AV.erL, AV.er]) (fun _ h => h) rfl ?_
      simp only [goRules, coreRules, tiRules, unRules, AS_of_eq, ← decide_not, seval, mapRules, objRules, opC]
      (repeat (with_reducible refine And.intro ?_ ?_; focus (first | omega | exact mixed1 | kernel_rfl)))
      refine retG_go [0] [] [.cells (opC x)] [] (.tup [.sl 0 1 (strsA (fieldF x 120).1), .v (.bool (fieldF x 120).2)]) ⟨rfl, rfl, rfl⟩ ?_
      simp only [goRules, coreRules, tiRules, unRules, AS_of_eq, ← decide_not, seval, mapRules, objRules, opC, e, strsA, List.map_cons, List.map_nil, h4, Bool.true_and, decide_true] <;> ((repeat' apply And.intro) <;> first | rfl | omega | trivial)
    · simp only [goRules, coreRules, tiRules, unRules, AS_of_eq, ← decide_not, seval, mapRules, objRules, opC, show ((x.text.length : Int) ≤ 4000) = False from eq_false (by omega)]
      (repeat (with_reducible refine And.intro ?_ ?_; focus (first | omega | exact mixed1 | kernel_rfl)))
      refine retG_go [0] [] [.cells (opC x)] [] (.tup [.sl 0 1 (strsA (fieldF x 120).1), .v (.bool (fieldF x 120).2)]) ⟨rfl, rfl, rfl⟩ ?_
      simp only [goRules, coreRules, tiRules, unRules, AS_of_eq, ← decide_not, seval, mapRules, objRules, opC, e, strsA, List.map_cons, List.map_nil, h4, Bool.false_and, decide_false] <;> ((repeat' apply And.intro) <;> first | rfl | omega | trivial)
  · simp only [goRules, coreRules, tiRules, unRules, AS_of_eq, ← decide_not, seval, mapRules, objRules, opC, numP, List.length_nil]
    (repeat (with_reducible refine And.intro ?_ ?_; focus (first | omega | exact mixed1 | kernel_rfl)))
    obtain ⟨St, hSt⟩ : ∃ St : Unit → AS, ∀ u, St u = AS.ofH 88 [(4, .sl 0 1 []), (73, .v (.int .i64 0)), (74, .v (.int .i64 0))] [(0, .ptr 0 0)] [.cells (opC x)] [] := ⟨_, fun _ => rfl⟩
    refine vcM_lp ?_
    refine vc_loopM [] hΓ St (fun _ => 0) () (by rw [hSt]; refine weakH_go [0] [] ?_; simp only [goRules, coreRules, tiRules, unRules, AS_of_eq, ← decide_not, seval, mapRules, objRules, opC] <;> ((repeat' apply And.intro) <;> first | rfl | omega | trivial)) ?_
    rintro ⟨⟩
    rw [hSt]
    simp only [goRules, coreRules, tiRules, unRules, AS_of_eq, ← decide_not, seval, mapRules, objRules, opC]
    have e : fieldF x 108 = ([], true) := rfl
    refine retG_go [0] [] [.cells (opC x)] [] (.tup [.sl 0 1 (strsA (fieldF x 108).1), .v (.bool (fieldF x 108).2)]) ⟨rfl, rfl, rfl⟩ ?_
    simp only [goRules, coreRules, tiRules, unRules, AS_of_eq, ← decide_not, seval, mapRules, objRules, opC, e, strsA, List.map_nil] <;> ((repeat' apply And.intro) <;> first | rfl | omega | trivial)
end Go.Proofs
end

-- SSc4
section
namespace Go.Proofs
open Go Go.Rw
set_option maxRecDepth 100000
set_option linter.unusedSimpArgs false
set_option linter.unusedVariables false

def foldF (x : So) : List UInt8 → Option (List (List UInt8))
  | [] => some []
  | f :: r => if (fieldF x f).2 then (foldF x r).map ((fieldF x f).1 ++ ·) else none
def wordK (k : Int) : List UInt8 := tabW.getD (2 * k.toNat) []
def letsK (k : Int) : List UInt8 := tabW.getD (2 * k.toNat + 1) []
/-- An op as a line. -/
def textF (x : So) : List UInt8 := if x.kind < 1 ∨ x.kind > 16 then [] else match foldF x (letsK x.kind) with
  | some ws => Lib.join (wordK x.kind :: ws) [32]
  | none => []
theorem lets_of {k : Int} (h : 0 ≤ k ∧ k ≤ 16) : (letsK k).length ≤ 5 ∧ (wordK k).length ≤ 10 ∧ ∀ f ∈ letsK k, f ∈ lets := by
  have : k = 0 ∨ k = 1 ∨ k = 2 ∨ k = 3 ∨ k = 4 ∨ k = 5 ∨ k = 6 ∨ k = 7 ∨ k = 8 ∨ k = 9 ∨ k = 10 ∨ k = 11 ∨ k = 12 ∨ k = 13 ∨ k = 14 ∨ k = 15 ∨ k = 16 := by omega
  rcases this with rfl | rfl | rfl | rfl | rfl | rfl | rfl | rfl | rfl | rfl | rfl | rfl | rfl | rfl | rfl | rfl | rfl <;> decide
theorem tab_at {k : Int} (h : 0 ≤ k ∧ k ≤ 16) : List.take 2 (List.drop (k.toNat * 2) (List.map (fun s => AV.v (sv s)) tabW)) = [.v (sv (wordK k)), .v (sv (letsK k))] := by
  have : k = 0 ∨ k = 1 ∨ k = 2 ∨ k = 3 ∨ k = 4 ∨ k = 5 ∨ k = 6 ∨ k = 7 ∨ k = 8 ∨ k = 9 ∨ k = 10 ∨ k = 11 ∨ k = 12 ∨ k = 13 ∨ k = 14 ∨ k = 15 ∨ k = 16 := by omega
  rcases this with rfl | rfl | rfl | rfl | rfl | rfl | rfl | rfl | rfl | rfl | rfl | rfl | rfl | rfl | rfl | rfl | rfl <;> rfl
theorem dec_ascii {l : List UInt8} {j : Nat} (h : j < l.length) (ha : l[j].toNat < 128) : dec1 l j = l[j].toNat ∧ dec2 l j = 1 := by
  have h1 := decodeL_dropL l j
  rw [List.drop_eq_getElem_cons h, Lib.decodeL_ascii _ _ ha] at h1
  unfold dec1 dec2
  rw [← h1]
  exact ⟨rfl, rfl⟩
theorem lets_ascii {f : UInt8} (h : f ∈ lets) : f.toNat < 128 := by
  revert f; decide
theorem fold_snoc (x : So) (f : UInt8) : ∀ l : List UInt8, foldF x (l ++ [f]) = (foldF x l).bind fun ws => if (fieldF x f).2 then some (ws ++ (fieldF x f).1) else none
  | [] => by simp [foldF]
  | g :: l => by
    simp only [List.cons_append, foldF, fold_snoc x f l]
    cases (fieldF x g).2 <;> cases foldF x l <;> cases (fieldF x f).2 <;> simp
theorem fold_none (x : So) : ∀ l r : List UInt8, foldF x l = none → foldF x (l ++ r) = none
  | [], r, h => by cases h
  | g :: l, r, h => by
    simp only [List.cons_append, foldF] at h ⊢
    split
    · rename_i h1
      rw [if_pos h1] at h
      rw [fold_none x l r (by simpa using h)]; rfl
    · rfl
theorem upd_own {h : Nat → Option AO} {o : Nat} {x : Option AO} (hob : h o = x) : upd h o x = h := by
  funext j
  simp only [upd]
  split
  · rename_i e; subst e; exact hob.symm
  · rfl
theorem field_len (x : So) (f : UInt8) : (fieldF x f).1.length ≤ 1 := by
  unfold fieldF
  split
  · simp
  · split
    · simp
    · split
      · simp
      · split <;> simp
theorem field_word {x : So} (hx : okSo x) {f : UInt8} {w : List UInt8} (h : w ∈ (fieldF x f).1) : w.length ≤ 1000001 := by
  unfold fieldF at h
  split at h
  · rename_i n hn
    have hb : -9223372036854775808 ≤ n ∧ n ≤ 9223372036854775807 := by
      have hm : n ∈ [x.cl, x.id, x.par, x.fr, x.to, x.n] := by
        unfold numF at hn
        repeat' split at hn
        all_goals first | (cases hn; simp; done) | cases hn
      exact hx.2.2 n hm
    have := Lib.itoa_length_le n hb.1 hb.2
    rw [List.mem_singleton.1 h]; omega
  · have h1 := hx.1.1
    have h2 := hx.2.1
    split at h
    · rw [List.mem_singleton.1 h]; omega
    · split at h
      · rw [List.mem_singleton.1 h]; unfold kindW; split <;> simp
      · split at h
        · rw [List.mem_singleton.1 h]; unfold txtW; split
          · simp
          · simp only [List.length_cons]; omega
        · simp at h
theorem fold_words {x : So} (hx : okSo x) : ∀ {l : List UInt8} {ws : List (List UInt8)}, foldF x l = some ws → ∀ w ∈ ws, w.length ≤ 1000001
  | [], ws, h, w, hw => by cases h; simp at hw
  | f :: l, ws, h, w, hw => by
    simp only [foldF] at h
    split at h
    · obtain ⟨r, hr, rfl⟩ := Option.map_eq_some_iff.1 h
      rcases List.mem_append.1 hw with h1 | h1
      · exact field_word hx h1
      · exact fold_words hx hr w h1
    · cases h
theorem joinTail_len {sep : List UInt8} {m : Nat} : ∀ {r : List (List UInt8)}, (∀ w ∈ r, w.length ≤ m) → (Lib.joinTail sep r).length ≤ r.length * (sep.length + m)
  | [], _ => by simp [Lib.joinTail]
  | w :: r, h => by
    have h1 := joinTail_len (sep := sep) (m := m) (r := r) fun v hv => h v (List.mem_cons_of_mem _ hv)
    have h2 := h w (List.mem_cons_self ..)
    have e : Lib.joinTail sep (w :: r) = sep ++ w ++ Lib.joinTail sep r := by simp [Lib.joinTail]
    rw [e, List.length_append, List.length_append, List.length_cons, Nat.add_mul]
    omega
section
variable {Γ : Env} {n : Nat} {t : Nat → AV} {hd : Nat → Nat → AV} {d : Option Nat} {K : AS → Prop} {nh nl : Nat} {h : Nat → Option AO} {fm : Nat → Nat} {lv : Nat → Option (Nat × Nat)} {mu : Bool}
theorem call_field (hC : Γ.get 14 = none) {x : So} (hx : okSo x) {f : UInt8} (hf : f ∈ lets) {o : Nat} (hob : h o = some (.cells (opC x)))
    (hk : cont ⟨n, t, hd, ⟨nh, h, nl, fm, lv, mu⟩⟩ d (.tup [.sl 0 1 (strsA (fieldF x f).1), .v (.bool (fieldF x f).2)]) K) : vcCall Tryd.prog Γ false ⟨n, t, hd, ⟨nh, h, nl, fm, lv, mu⟩⟩ 14 [.ptr o 0, .v (.int .i32 f.toNat)] d K := by
  have e0 : upd h o (some (.cells (opC x))) = h := upd_own hob
  refine vc_obj sfield_good hC ⟨(x, f), hx, hf⟩ [o] ⟨by simp, by simp [dnL, dn], ?_, by simp [AV.tagsL, AV.tags], ?_⟩ ?_
  · simp only [opC, dnOs_cons, dnOs_nil, hob, dnOo_cells, dnL_cons, dnL_nil, dn_v, dn_sl]
    simp
  · simp [tagsOs_cons, tagsOs_nil, hob, opC, tagsO1, AO.tags, AV.tagsL, AV.tags]
  · rintro objs lvs r ⟨rfl, rfl, rfl⟩ hll
    simp only [opC, embsO_cons, embsO_nil, embO_cells, embL_cons, embL_nil, emb_v, emb_sl, emb_tup, obC_succ, obC_zero, obC_nil, lnC_zero, callH_cons, callH_new, callH_nil, callF_nil, callV_nil, List.length_cons, List.length_nil, Nat.add_zero]
    simp only [opC] at e0
    rw [e0]
    exact hk
end
abbrev textCon26 : Con where
  ι := { x : So // okSo x }
  args := fun x => [.agg (opC x.1)]
  post := fun x r => r = .v (sv (textF x.1))
  plain := true
set_option maxHeartbeats 4000000 in
theorem stext26_good : Rw.Good Tryd.prog 6 textCon26 := by
  have hΓ : GoodEnv Tryd.prog [(13, wordsCon), (15, joinCon)] := (goodEnv_cons swords_good (goodEnv_cons sjoin_good goodEnv_nil))
  refine good_fna (nn := 42) Tryd.func6 (by kernel_rfl) rfl (show Tryd.f6.results.toList = [.tmp 2] from rfl) (fun _ => rfl) (fun x => by simp [opC, AV.erL, AV.er]) ?_
  rintro ⟨x, hx⟩
  refine vcM_ok hΓ (Ws := []) _ ?_
  simp only [goRules, coreRules, tiRules, unRules, AS_of_eq, ← decide_not, seval, mapRules, objRules, opC]
  refine vcM_sc ?_
  refine vc_scopeM [] hΓ 1 ?_
  simp only [goRules, coreRules, tiRules, unRules, AS_of_eq, ← decide_not, seval, mapRules, objRules, opC]
  (repeat (with_reducible refine And.intro ?_ ?_; focus (first | omega | exact mixed1 | kernel_rfl)))
  by_cases k1 : x.kind < 1
  · have e : textF x = [] := by unfold textF; rw [if_pos (.inl k1)]
    simp only [goRules, coreRules, tiRules, unRules, AS_of_eq, ← decide_not, seval, mapRules, objRules, opC, k1]
    refine ⟨_, rfl, ?_⟩
    simp only [goRules, coreRules, tiRules, unRules, AS_of_eq, ← decide_not, seval, mapRules, objRules, e]
  by_cases k2 : x.kind > 16
  · have e : textF x = [] := by unfold textF; rw [if_pos (.inr k2)]
    simp only [goRules, coreRules, tiRules, unRules, AS_of_eq, ← decide_not, seval, mapRules, objRules, opC, k1, k2]
    refine ⟨_, rfl, ?_⟩
    simp only [goRules, coreRules, tiRules, unRules, AS_of_eq, ← decide_not, seval, mapRules, objRules, e]
  simp only [goRules, coreRules, tiRules, unRules, AS_of_eq, ← decide_not, seval, mapRules, objRules, opC, k1, k2]
  (repeat (with_reducible refine And.intro ?_ ?_; focus (first | omega | exact mixed1 | kernel_rfl)))
  refine vcCall_plain (C := wordsCon) (i := ()) (by simp [get_cons]) rfl rfl rfl (by simp [AV.erL]) (fun _ h => h) rfl ?_
  have hk : 0 ≤ x.kind ∧ x.kind ≤ 16 := by omega
  have hld := tab_at hk
  have hlen : (List.map (fun s => AV.v (sv s)) tabW).length = 34 := rfl
  have h17 : (0 ≤ x.kind ∧ x.kind < 17) = True := eq_true (by omega)
  have h34 : (x.kind.toNat * 2 + 2 ≤ 34) = True := eq_true (by omega)
  simp only [goRules, coreRules, tiRules, unRules, AS_of_eq, ← decide_not, seval, mapRules, objRules, opC, hld, hlen, h17, h34, List.length_cons, List.length_nil]
  (repeat (with_reducible refine And.intro ?_ ?_; focus (first | omega | exact mixed1 | kernel_rfl)))
  obtain ⟨hl5, hw10, hlm⟩ := lets_of hk
  have ht : textF x = match foldF x (letsK x.kind) with
    | some ws => Lib.join (wordK x.kind :: ws) [32]
    | none => [] := by unfold textF; rw [if_neg (by omega)]
  generalize letsK x.kind = ls at *
  generalize wordK x.kind = w0 at *
  obtain ⟨St, hSt⟩ : ∃ St : { p : Nat × List (List UInt8) // p.1 ≤ ls.length ∧ p.2.length ≤ p.1 ∧ foldF x (ls.take p.1) = some p.2 } → AS, ∀ p, St p = AS.ofH 42 [(1, .ptr 0 0), (4, .sl 2 1 (strsA (w0 :: p.1.2))), (26, .ptr 1 0)] [] [.cells (opC x), .iter ⟨ls.toArray⟩ p.1.1] [(p.1.2.length + 1, 9)] := ⟨_, fun _ => rfl⟩
  refine vcM_lp ?_
  refine vc_loopM [] hΓ St (fun p => ls.length - p.1.1) ⟨(0, []), by simp, by simp, rfl⟩ (by rw [hSt]; refine weakH_go [0, 2] [.live 2] ?_; simp only [goRules, coreRules, tiRules, unRules, AS_of_eq, ← decide_not, seval, mapRules, objRules, opC, strsA, List.map_cons, List.map_nil, List.length_nil] <;> ((repeat' apply And.intro) <;> first | rfl | omega | trivial)) ?_
  rintro ⟨⟨j, ws⟩, hj, hwl, hf⟩
  simp only at hj hwl hf
  rw [hSt]
  simp only
  simp only [goRules, coreRules, tiRules, unRules, AS_of_eq, ← decide_not, seval, mapRules, objRules, opC, strs_len, List.length_cons]
  by_cases hj2 : j < ls.length
  · have hfm := hlm _ (List.getElem_mem hj2)
    obtain ⟨d1, d2⟩ := dec_ascii hj2 (lets_ascii hfm)
    have tk := List.take_succ_eq_append_getElem hj2
    have fs := fold_snoc x ls[j] (ls.take j)
    rw [← tk, hf] at fs
    have fn : foldF x (ls.take (j + 1)) = none → foldF x ls = none := fun hn => by
      have := fold_none x _ (ls.drop (j + 1)) hn
      rwa [List.take_append_drop] at this
    generalize ls[j] = f at *
    simp only [goRules, coreRules, tiRules, unRules, AS_of_eq, ← decide_not, seval, mapRules, objRules, opC, nextO_in hj2, d1, d2, strs_len, List.length_cons]
    refine call_field (by simp [get_cons, get_nil]) hx hfm (by simp [opC, upd]) ?_
    have fl := field_len x f
    have e4 : strsA (w0 :: ws) ++ strsA (fieldF x f).1 = strsA (w0 :: (ws ++ (fieldF x f).1)) := by simp [strsA]
    have e5 : (ws ++ (fieldF x f).1).length = ws.length + (fieldF x f).1.length := by simp
    rcases Bool.eq_false_or_eq_true (fieldF x f).2 with hb | hb
    · rw [Option.bind_some, hb, if_pos rfl] at fs
      simp only [goRules, coreRules, tiRules, unRules, AS_of_eq, ← decide_not, seval, mapRules, objRules, opC, hb, strs_len, List.length_cons]
      (repeat (with_reducible refine And.intro ?_ ?_; focus (first | omega | exact mixed1 | kernel_rfl)))
      refine weak_again ⟨(j + 1, ws ++ (fieldF x f).1), by simp only; omega, by simp only; omega, fs⟩ (by simp only; omega) ?_
      rw [hSt]; refine weakH_go [0, 1] [.live 2] ?_
      have e7 : ws.length + (fieldF x f).1.length + 1 = ws.length + 1 + (fieldF x f).1.length := by omega
      simp only [goRules, coreRules, tiRules, unRules, AS_of_eq, ← decide_not, seval, mapRules, objRules, opC, e4, e5, e7] <;> ((repeat' apply And.intro) <;> first | rfl | omega | trivial)
    · rw [Option.bind_some, hb, if_neg (by simp)] at fs
      rw [fn fs] at ht
      simp only [goRules, coreRules, tiRules, unRules, AS_of_eq, ← decide_not, seval, mapRules, objRules, opC, hb]
      refine ⟨_, rfl, ?_⟩
      simp only [goRules, coreRules, tiRules, unRules, AS_of_eq, ← decide_not, seval, mapRules, objRules, ht]
  · simp only [goRules, coreRules, tiRules, unRules, AS_of_eq, ← decide_not, seval, mapRules, objRules, opC, nextO_end hj2, strs_len, List.length_cons]
    have e6 : ls.take j = ls := List.take_of_length_le (by omega)
    rw [e6] at hf
    rw [hf] at ht
    have hlw := fold_words hx hf
    have hjl := joinTail_len (sep := [32]) hlw
    refine vcCall_plain (C := joinCon) (i := ⟨(w0 :: ws, [32]), by simp only [List.length_cons]; omega, by
      have hm : ws.length * ([32].length + 1000001) ≤ 5 * ([32].length + 1000001) := Nat.mul_le_mul (by omega) (Nat.le_refl _)
      simp only [Lib.join_cons, List.length_append]
      simp only [List.length_cons, List.length_nil] at hjl hm ⊢
      omega⟩) (by simp [get_cons]) rfl rfl rfl (by simp only [AV.erL, AV.er]) (fun _ h => h) rfl ?_
    simp only [goRules, coreRules, tiRules, unRules, AS_of_eq, ← decide_not, seval, mapRules, objRules, ht]
end Go.Proofs
end

-- SSc5
section
namespace Go.Proofs
open Go Go.Rw
set_option maxRecDepth 100000
set_option linter.unusedSimpArgs false
set_option linter.unusedVariables false

def numV (s : List UInt8) : Int := match Lib.atoiAll s with
  | .ok v => v
  | _ => 0
def setN (x : So) (f : UInt8) (v : Int) : So := if f = 99 then { x with cl := v } else if f = 105 then { x with id := v } else if f = 112 then { x with par := v } else if f = 102 then { x with fr := v } else if f = 116 then { x with to := v } else { x with n := v }
def isNum (f : UInt8) : Bool := f = 99 || f = 105 || f = 112 || f = 102 || f = 116 || f = 107
/-- A field read of what is left of a line; what is left then. -/
def takeF (x : So) (f : UInt8) (s : List UInt8) : So × List UInt8 :=
  if f = 120 then ({ x with text := if s = [45] then [] else Lib.trimPrefix s [61] }, [])
  else if isNum f then (setN x f (numV (cutB 32 s).1), (cutB 32 s).2.1)
  else if f = 110 then ({ x with nm := (cutB 32 s).1 }, (cutB 32 s).2.1)
  else if f = 100 then ({ x with dir := decide ((cutB 32 s).1 = [100, 105, 114]) }, (cutB 32 s).2.1)
  else (x, (cutB 32 s).2.1)
abbrev takesCon : ConO where
  ι := { p : So × UInt8 × List UInt8 // (p.2.1 ∈ lets ∧ p.2.1 ≠ 108) ∧ p.2.2.length ≤ 1000000 ∧ (isNum p.2.1 = true → Lib.atoiAll (cutB 32 p.2.2).1 = .ok (numV (cutB 32 p.2.2).1)) }
  objs := fun p => [.cells (opC p.1.1)]
  args := fun p => [.ptr 0 0, .v (.int .i32 p.1.2.1.toNat), .v (sv p.1.2.2)]
  post := fun p objs lvs r => objs = [.cells (opC (takeF p.1.1 p.1.2.1 p.1.2.2).1)] ∧ lvs = [] ∧ r = .v (sv (takeF p.1.1 p.1.2.1 p.1.2.2).2)
set_option maxHeartbeats 4000000 in
theorem stakes_good : GoodO Tryd.prog 17 takesCon := by
  have hΓ : GoodEnv Tryd.prog [(33, tpreCon), (16, cutCon), (34, atoiCon)] := (goodEnv_cons stpre_good (goodEnv_cons scut_good (goodEnv_cons satoi_good goodEnv_nil)))
  refine goodO_fna (nn := 82) Tryd.func17 (by kernel_rfl) rfl (show Tryd.f17.results.toList = [.tmp 6] from rfl) (fun _ => rfl) ?_
  rintro ⟨⟨x, f, s⟩, ⟨hf, hf2⟩, hs, ha⟩
  simp only at hf hf2 hs ha
  have hcl := cut_len 32 s
  refine vcM_ok hΓ (Ws := []) _ ?_
  simp only [lets, List.mem_cons, List.not_mem_nil, or_false] at hf
  rcases hf with rfl | rfl | rfl | rfl | rfl | rfl | rfl | rfl | rfl | rfl
  · have ha := ha rfl
    have e3 : opC (takeF x 99 s).1 = (opC x).set 1 (.v (.int .i64 (numV (cutB 32 s).1))) := rfl
    have e4 : (takeF x 99 s).2 = (cutB 32 s).2.1 := rfl
    simp only [goRules, coreRules, tiRules, unRules, AS_of_eq, ← decide_not, seval, mapRules, objRules, opC]
    refine vcCall_plain (C := cutCon) (i := ⟨(s, 32), by simp only; omega⟩) (by simp [get_cons]) rfl rfl rfl (by simp [AV.erL, AV.er]) (fun _ h => h) rfl ?_
    simp only [goRules, coreRules, tiRules, unRules, AS_of_eq, ← decide_not, seval, mapRules, objRules, opC]
    refine call_num hΓ (by simp [get_cons, get_nil]) (x := x) (o := 0) (by simp [opC]) ?_
    simp only [goRules, coreRules, tiRules, unRules, AS_of_eq, ← decide_not, seval, mapRules, objRules, opC, numP]
    refine vcCall_plain (C := atoiCon) (i := ⟨((cutB 32 s).1, numV (cutB 32 s).1), by simp only; omega, ha⟩) (by simp [get_cons]) rfl rfl rfl (by simp [AV.erL, AV.er]) (fun _ h => h) rfl ?_
    simp only [goRules, coreRules, tiRules, unRules, AS_of_eq, ← decide_not, seval, mapRules, objRules, opC]
    (repeat (with_reducible refine And.intro ?_ ?_; focus (first | omega | exact mixed1 | kernel_rfl)))
    refine retG_go [0] [] [.cells (opC (takeF x 99 s).1)] [] (.v (sv (takeF x 99 s).2)) ⟨rfl, rfl, rfl⟩ ?_
    simp only [goRules, coreRules, tiRules, unRules, AS_of_eq, ← decide_not, seval, mapRules, objRules, e3, e4, opC, List.set] <;> ((repeat' apply And.intro) <;> first | rfl | omega | trivial)
  · have ha := ha rfl
    have e3 : opC (takeF x 105 s).1 = (opC x).set 3 (.v (.int .i64 (numV (cutB 32 s).1))) := rfl
    have e4 : (takeF x 105 s).2 = (cutB 32 s).2.1 := rfl
    simp only [goRules, coreRules, tiRules, unRules, AS_of_eq, ← decide_not, seval, mapRules, objRules, opC]
    refine vcCall_plain (C := cutCon) (i := ⟨(s, 32), by simp only; omega⟩) (by simp [get_cons]) rfl rfl rfl (by simp [AV.erL, AV.er]) (fun _ h => h) rfl ?_
    simp only [goRules, coreRules, tiRules, unRules, AS_of_eq, ← decide_not, seval, mapRules, objRules, opC]
    refine call_num hΓ (by simp [get_cons, get_nil]) (x := x) (o := 0) (by simp [opC]) ?_
    simp only [goRules, coreRules, tiRules, unRules, AS_of_eq, ← decide_not, seval, mapRules, objRules, opC, numP]
    refine vcCall_plain (C := atoiCon) (i := ⟨((cutB 32 s).1, numV (cutB 32 s).1), by simp only; omega, ha⟩) (by simp [get_cons]) rfl rfl rfl (by simp [AV.erL, AV.er]) (fun _ h => h) rfl ?_
    simp only [goRules, coreRules, tiRules, unRules, AS_of_eq, ← decide_not, seval, mapRules, objRules, opC]
    (repeat (with_reducible refine And.intro ?_ ?_; focus (first | omega | exact mixed1 | kernel_rfl)))
    refine retG_go [0] [] [.cells (opC (takeF x 105 s).1)] [] (.v (sv (takeF x 105 s).2)) ⟨rfl, rfl, rfl⟩ ?_
    simp only [goRules, coreRules, tiRules, unRules, AS_of_eq, ← decide_not, seval, mapRules, objRules, e3, e4, opC, List.set] <;> ((repeat' apply And.intro) <;> first | rfl | omega | trivial)
  · have ha := ha rfl
    have e3 : opC (takeF x 112 s).1 = (opC x).set 4 (.v (.int .i64 (numV (cutB 32 s).1))) := rfl
    have e4 : (takeF x 112 s).2 = (cutB 32 s).2.1 := rfl
    simp only [goRules, coreRules, tiRules, unRules, AS_of_eq, ← decide_not, seval, mapRules, objRules, opC]
    refine vcCall_plain (C := cutCon) (i := ⟨(s, 32), by simp only; omega⟩) (by simp [get_cons]) rfl rfl rfl (by simp [AV.erL, AV.er]) (fun _ h => h) rfl ?_
    simp only [goRules, coreRules, tiRules, unRules, AS_of_eq, ← decide_not, seval, mapRules, objRules, opC]
    refine call_num hΓ (by simp [get_cons, get_nil]) (x := x) (o := 0) (by simp [opC]) ?_
    simp only [goRules, coreRules, tiRules, unRules, AS_of_eq, ← decide_not, seval, mapRules, objRules, opC, numP]
    refine vcCall_plain (C := atoiCon) (i := ⟨((cutB 32 s).1, numV (cutB 32 s).1), by simp only; omega, ha⟩) (by simp [get_cons]) rfl rfl rfl (by simp [AV.erL, AV.er]) (fun _ h => h) rfl ?_
    simp only [goRules, coreRules, tiRules, unRules, AS_of_eq, ← decide_not, seval, mapRules, objRules, opC]
    (repeat (with_reducible refine And.intro ?_ ?_; focus (first | omega | exact mixed1 | kernel_rfl)))
    refine retG_go [0] [] [.cells (opC (takeF x 112 s).1)] [] (.v (sv (takeF x 112 s).2)) ⟨rfl, rfl, rfl⟩ ?_
    simp only [goRules, coreRules, tiRules, unRules, AS_of_eq, ← decide_not, seval, mapRules, objRules, e3, e4, opC, List.set] <;> ((repeat' apply And.intro) <;> first | rfl | omega | trivial)
  · have ha := ha rfl
    have e3 : opC (takeF x 102 s).1 = (opC x).set 9 (.v (.int .i64 (numV (cutB 32 s).1))) := rfl
    have e4 : (takeF x 102 s).2 = (cutB 32 s).2.1 := rfl
    simp only [goRules, coreRules, tiRules, unRules, AS_of_eq, ← decide_not, seval, mapRules, objRules, opC]
    refine vcCall_plain (C := cutCon) (i := ⟨(s, 32), by simp only; omega⟩) (by simp [get_cons]) rfl rfl rfl (by simp [AV.erL, AV.er]) (fun _ h => h) rfl ?_
    simp only [goRules, coreRules, tiRules, unRules, AS_of_eq, ← decide_not, seval, mapRules, objRules, opC]
    refine call_num hΓ (by simp [get_cons, get_nil]) (x := x) (o := 0) (by simp [opC]) ?_
    simp only [goRules, coreRules, tiRules, unRules, AS_of_eq, ← decide_not, seval, mapRules, objRules, opC, numP]
    refine vcCall_plain (C := atoiCon) (i := ⟨((cutB 32 s).1, numV (cutB 32 s).1), by simp only; omega, ha⟩) (by simp [get_cons]) rfl rfl rfl (by simp [AV.erL, AV.er]) (fun _ h => h) rfl ?_
    simp only [goRules, coreRules, tiRules, unRules, AS_of_eq, ← decide_not, seval, mapRules, objRules, opC]
    (repeat (with_reducible refine And.intro ?_ ?_; focus (first | omega | exact mixed1 | kernel_rfl)))
    refine retG_go [0] [] [.cells (opC (takeF x 102 s).1)] [] (.v (sv (takeF x 102 s).2)) ⟨rfl, rfl, rfl⟩ ?_
    simp only [goRules, coreRules, tiRules, unRules, AS_of_eq, ← decide_not, seval, mapRules, objRules, e3, e4, opC, List.set] <;> ((repeat' apply And.intro) <;> first | rfl | omega | trivial)
  · have ha := ha rfl
    have e3 : opC (takeF x 116 s).1 = (opC x).set 10 (.v (.int .i64 (numV (cutB 32 s).1))) := rfl
    have e4 : (takeF x 116 s).2 = (cutB 32 s).2.1 := rfl
    simp only [goRules, coreRules, tiRules, unRules, AS_of_eq, ← decide_not, seval, mapRules, objRules, opC]
    refine vcCall_plain (C := cutCon) (i := ⟨(s, 32), by simp only; omega⟩) (by simp [get_cons]) rfl rfl rfl (by simp [AV.erL, AV.er]) (fun _ h => h) rfl ?_
    simp only [goRules, coreRules, tiRules, unRules, AS_of_eq, ← decide_not, seval, mapRules, objRules, opC]
    refine call_num hΓ (by simp [get_cons, get_nil]) (x := x) (o := 0) (by simp [opC]) ?_
    simp only [goRules, coreRules, tiRules, unRules, AS_of_eq, ← decide_not, seval, mapRules, objRules, opC, numP]
    refine vcCall_plain (C := atoiCon) (i := ⟨((cutB 32 s).1, numV (cutB 32 s).1), by simp only; omega, ha⟩) (by simp [get_cons]) rfl rfl rfl (by simp [AV.erL, AV.er]) (fun _ h => h) rfl ?_
    simp only [goRules, coreRules, tiRules, unRules, AS_of_eq, ← decide_not, seval, mapRules, objRules, opC]
    (repeat (with_reducible refine And.intro ?_ ?_; focus (first | omega | exact mixed1 | kernel_rfl)))
    refine retG_go [0] [] [.cells (opC (takeF x 116 s).1)] [] (.v (sv (takeF x 116 s).2)) ⟨rfl, rfl, rfl⟩ ?_
    simp only [goRules, coreRules, tiRules, unRules, AS_of_eq, ← decide_not, seval, mapRules, objRules, e3, e4, opC, List.set] <;> ((repeat' apply And.intro) <;> first | rfl | omega | trivial)
  · have ha := ha rfl
    have e3 : opC (takeF x 107 s).1 = (opC x).set 8 (.v (.int .i64 (numV (cutB 32 s).1))) := rfl
    have e4 : (takeF x 107 s).2 = (cutB 32 s).2.1 := rfl
    simp only [goRules, coreRules, tiRules, unRules, AS_of_eq, ← decide_not, seval, mapRules, objRules, opC]
    refine vcCall_plain (C := cutCon) (i := ⟨(s, 32), by simp only; omega⟩) (by simp [get_cons]) rfl rfl rfl (by simp [AV.erL, AV.er]) (fun _ h => h) rfl ?_
    simp only [goRules, coreRules, tiRules, unRules, AS_of_eq, ← decide_not, seval, mapRules, objRules, opC]
    refine call_num hΓ (by simp [get_cons, get_nil]) (x := x) (o := 0) (by simp [opC]) ?_
    simp only [goRules, coreRules, tiRules, unRules, AS_of_eq, ← decide_not, seval, mapRules, objRules, opC, numP]
    refine vcCall_plain (C := atoiCon) (i := ⟨((cutB 32 s).1, numV (cutB 32 s).1), by simp only; omega, ha⟩) (by simp [get_cons]) rfl rfl rfl (by simp [AV.erL, AV.er]) (fun _ h => h) rfl ?_
    simp only [goRules, coreRules, tiRules, unRules, AS_of_eq, ← decide_not, seval, mapRules, objRules, opC]
    (repeat (with_reducible refine And.intro ?_ ?_; focus (first | omega | exact mixed1 | kernel_rfl)))
    refine retG_go [0] [] [.cells (opC (takeF x 107 s).1)] [] (.v (sv (takeF x 107 s).2)) ⟨rfl, rfl, rfl⟩ ?_
    simp only [goRules, coreRules, tiRules, unRules, AS_of_eq, ← decide_not, seval, mapRules, objRules, e3, e4, opC, List.set] <;> ((repeat' apply And.intro) <;> first | rfl | omega | trivial)
  · have e3 : opC (takeF x 110 s).1 = (opC x).set 5 (.v (sv (cutB 32 s).1)) := rfl
    have e4 : (takeF x 110 s).2 = (cutB 32 s).2.1 := rfl
    simp only [goRules, coreRules, tiRules, unRules, AS_of_eq, ← decide_not, seval, mapRules, objRules, opC]
    refine vcCall_plain (C := cutCon) (i := ⟨(s, 32), by simp only; omega⟩) (by simp [get_cons]) rfl rfl rfl (by simp [AV.erL, AV.er]) (fun _ h => h) rfl ?_
    simp only [goRules, coreRules, tiRules, unRules, AS_of_eq, ← decide_not, seval, mapRules, objRules, opC]
    refine call_num hΓ (by simp [get_cons, get_nil]) (x := x) (o := 0) (by simp [opC]) ?_
    simp only [goRules, coreRules, tiRules, unRules, AS_of_eq, ← decide_not, seval, mapRules, objRules, opC, numP]
    (repeat (with_reducible refine And.intro ?_ ?_; focus (first | omega | exact mixed1 | kernel_rfl)))
    refine retG_go [0] [] [.cells (opC (takeF x 110 s).1)] [] (.v (sv (takeF x 110 s).2)) ⟨rfl, rfl, rfl⟩ ?_
    simp only [goRules, coreRules, tiRules, unRules, AS_of_eq, ← decide_not, seval, mapRules, objRules, e3, e4, opC, List.set] <;> ((repeat' apply And.intro) <;> first | rfl | omega | trivial)
  · have e3 : opC (takeF x 100 s).1 = (opC x).set 6 (.v (.bool (decide ((cutB 32 s).1 = [100, 105, 114])))) := rfl
    have e4 : (takeF x 100 s).2 = (cutB 32 s).2.1 := rfl
    simp only [goRules, coreRules, tiRules, unRules, AS_of_eq, ← decide_not, seval, mapRules, objRules, opC]
    refine vcCall_plain (C := cutCon) (i := ⟨(s, 32), by simp only; omega⟩) (by simp [get_cons]) rfl rfl rfl (by simp [AV.erL, AV.er]) (fun _ h => h) rfl ?_
    simp only [goRules, coreRules, tiRules, unRules, AS_of_eq, ← decide_not, seval, mapRules, objRules, opC]
    refine call_num hΓ (by simp [get_cons, get_nil]) (x := x) (o := 0) (by simp [opC]) ?_
    simp only [goRules, coreRules, tiRules, unRules, AS_of_eq, ← decide_not, seval, mapRules, objRules, opC, numP]
    (repeat (with_reducible refine And.intro ?_ ?_; focus (first | omega | exact mixed1 | kernel_rfl)))
    refine retG_go [0] [] [.cells (opC (takeF x 100 s).1)] [] (.v (sv (takeF x 100 s).2)) ⟨rfl, rfl, rfl⟩ ?_
    simp only [goRules, coreRules, tiRules, unRules, AS_of_eq, ← decide_not, seval, mapRules, objRules, e3, e4, opC, List.set] <;> ((repeat' apply And.intro) <;> first | rfl | omega | trivial)
  · have e3 : opC (takeF x 120 s).1 = (opC x).set 11 (.v (sv (if s = [45] then [] else Lib.trimPrefix s [61]))) := rfl
    have e4 : (takeF x 120 s).2 = [] := rfl
    simp only [goRules, coreRules, tiRules, unRules, AS_of_eq, ← decide_not, seval, mapRules, objRules, opC]
    refine vcCall_plain (C := tpreCon) (i := (s, [61])) (by simp [get_cons]) rfl rfl rfl (by simp [AV.erL, AV.er]) (fun _ h => h) rfl ?_
    by_cases h5 : s = [45]
    · rw [if_pos h5] at e3
      simp only [goRules, coreRules, tiRules, unRules, AS_of_eq, ← decide_not, seval, mapRules, objRules, opC, h5]
      (repeat (with_reducible refine And.intro ?_ ?_; focus (first | omega | exact mixed1 | kernel_rfl)))
      subst h5
      refine retG_go [0] [] [.cells (opC (takeF x 120 [45]).1)] [] (.v (sv (takeF x 120 [45]).2)) ⟨rfl, rfl, rfl⟩ ?_
      simp only [goRules, coreRules, tiRules, unRules, AS_of_eq, ← decide_not, seval, mapRules, objRules, e3, e4, opC, List.set] <;> ((repeat' apply And.intro) <;> first | rfl | omega | trivial)
    · rw [if_neg h5] at e3
      simp only [goRules, coreRules, tiRules, unRules, AS_of_eq, ← decide_not, seval, mapRules, objRules, opC, h5]
      (repeat (with_reducible refine And.intro ?_ ?_; focus (first | omega | exact mixed1 | kernel_rfl)))
      have e5 : (takeF x 120 s).1.text = Lib.trimPrefix s [61] := by simp [takeF, h5]
      refine retG_go [0] [] [.cells (opC (takeF x 120 s).1)] [] (.v (sv (takeF x 120 s).2)) ⟨rfl, rfl, rfl⟩ ?_
      simp only [goRules, coreRules, tiRules, unRules, AS_of_eq, ← decide_not, seval, mapRules, objRules, e3, e4, e5, opC, List.set] <;> ((repeat' apply And.intro) <;> first | rfl | omega | trivial)
  · exact absurd rfl hf2
section
variable {Γ : Env} {n : Nat} {t : Nat → AV} {hd : Nat → Nat → AV} {d : Option Nat} {K : AS → Prop} {nh nl : Nat} {h : Nat → Option AO} {fm : Nat → Nat} {lv : Nat → Option (Nat × Nat)} {mu : Bool}
theorem call_takes (hC : Γ.get 17 = none) {x : So} {f : UInt8} {s : List UInt8} (hf : f ∈ lets) (hf2 : f ≠ 108) (hs : s.length ≤ 1000000) (ha : isNum f = true → Lib.atoiAll (cutB 32 s).1 = .ok (numV (cutB 32 s).1)) {o : Nat} (hob : h o = some (.cells (opC x)))
    (hk : cont ⟨n, t, hd, ⟨nh, upd h o (some (.cells (opC (takeF x f s).1))), nl, fm, lv, true⟩⟩ d (.v (sv (takeF x f s).2)) K) : vcCall Tryd.prog Γ false ⟨n, t, hd, ⟨nh, h, nl, fm, lv, true⟩⟩ 17 [.ptr o 0, .v (.int .i32 f.toNat), .v (sv s)] d K := by
  refine vc_obj stakes_good hC ⟨(x, f, s), ⟨hf, hf2⟩, hs, ha⟩ [o] ⟨by simp, by simp [dnL, dn], ?_, by simp [AV.tagsL, AV.tags], ?_⟩ ?_
  · simp only [opC, dnOs_cons, dnOs_nil, hob, dnOo_cells, dnL_cons, dnL_nil, dn_v, dn_sl]
    simp
  · simp [tagsOs_cons, tagsOs_nil, hob, opC, tagsO1, AO.tags, AV.tagsL, AV.tags]
  · rintro objs lvs r ⟨rfl, rfl, rfl⟩ hll
    simp only [opC, embsO_cons, embsO_nil, embO_cells, embL_cons, embL_nil, emb_v, emb_sl, emb_tup, obC_succ, obC_zero, obC_nil, lnC_zero, callH_cons, callH_new, callH_nil, callF_nil, callV_nil, List.length_cons, List.length_nil, Nat.add_zero]
    exact hk
end
end Go.Proofs
end
