/-
  Facts of the program's types.
-/
import Derived.Test.YtmhpninemdmbkaaDoorRwE
import Derived.Test.YtmhpninemdmbkaaDoorProg
import Derived.KernelRfl
set_option linter.unusedSimpArgs false
set_option linter.unusedVariables false
set_option linter.defProp false

-- CTi
section
namespace Go.Proofs
open Go Go.Rw
set_option maxRecDepth 100000
theorem tiRules : (tiOf Tryd.prog 0 = some { size := 1, bytes := 0, zero := some (Value.tuple #[]), kind := TK.other, hints := [0] }) ∧
    (tiOf Tryd.prog 1 = some { size := 1, bytes := 8, zero := some Value.nilFunc, kind := TK.other, hints := [0] }) ∧
    (tiOf Tryd.prog 2 = some { size := 1, bytes := 8, zero := some (Value.int IntKind.i64 0), kind := TK.int IntKind.i64, hints := [0] }) ∧
    (tiOf Tryd.prog 3 = some { size := 1, bytes := 8, zero := some (Value.int IntKind.i64 0), kind := TK.int IntKind.i64, hints := [0] }) ∧
    (tiOf Tryd.prog 4 = some { size := 1, bytes := 1, zero := some (Value.bool false), kind := TK.other, hints := [0] }) ∧
    (tiOf Tryd.prog 5 = some { size := 1, bytes := 1, zero := some (Value.int IntKind.u8 0), kind := TK.int IntKind.u8, hints := [0] }) ∧
    (tiOf Tryd.prog 6 = some { size := 1, bytes := 1, zero := some (Value.int IntKind.u8 0), kind := TK.int IntKind.u8, hints := [0] }) ∧
    (tiOf Tryd.prog 7 = some { size := 4, bytes := 24, zero := some (Value.agg #[Value.int IntKind.i64 0, Value.int IntKind.i64 0, Value.bool false, Value.int IntKind.u8 0]), kind := TK.st [(0, 1), (1, 1), (2, 1), (3, 1)], hints := [0, 0, 0, 0] }) ∧
    (tiOf Tryd.prog 8 = some { size := 4, bytes := 24, zero := some (Value.agg #[Value.int IntKind.i64 0, Value.int IntKind.i64 0, Value.bool false, Value.int IntKind.u8 0]), kind := TK.st [(0, 1), (1, 1), (2, 1), (3, 1)], hints := [0, 0, 0, 0] }) ∧
    (tiOf Tryd.prog 9 = some { size := 1, bytes := 16, zero := some (Value.string { data := #[] }), kind := TK.str, hints := [0] }) ∧
    (tiOf Tryd.prog 10 = some { size := 1, bytes := 16, zero := some (Value.string { data := #[] }), kind := TK.str, hints := [0] }) ∧
    (tiOf Tryd.prog 11 = some { size := 1, bytes := 16, zero := some (Value.string { data := #[] }), kind := TK.str, hints := [0] }) ∧
    (tiOf Tryd.prog 12 = some { size := 1, bytes := 8, zero := some (Value.int IntKind.u64 0), kind := TK.int IntKind.u64, hints := [0] }) ∧
    (tiOf Tryd.prog 13 = some { size := 2, bytes := 24, zero := some (Value.agg #[Value.string { data := #[] }, Value.int IntKind.u64 0]), kind := TK.st [(0, 1), (1, 1)], hints := [0, 0] }) ∧
    (tiOf Tryd.prog 14 = some { size := 2, bytes := 24, zero := some (Value.agg #[Value.string { data := #[] }, Value.int IntKind.u64 0]), kind := TK.st [(0, 1), (1, 1)], hints := [0, 0] }) ∧
    (tiOf Tryd.prog 15 = some { size := 1, bytes := 8, zero := some (Value.pointer none), kind := TK.other, hints := [0] }) ∧
    (tiOf Tryd.prog 16 = some { size := 1, bytes := 8, zero := some (Value.pointer none), kind := TK.other, hints := [0] }) ∧
    (tiOf Tryd.prog 17 = some { size := 1, bytes := 8, zero := some (Value.pointer none), kind := TK.other, hints := [0] }) ∧
    (tiOf Tryd.prog 18 = some { size := 1, bytes := 8, zero := some (Value.agg #[Value.pointer none]), kind := TK.st [(0, 1)], hints := [0] }) ∧
    (tiOf Tryd.prog 19 = some { size := 1, bytes := 8, zero := some (Value.agg #[Value.pointer none]), kind := TK.st [(0, 1)], hints := [0] }) ∧
    (tiOf Tryd.prog 20 = some { size := 1, bytes := 16, zero := some Value.nilIface, kind := TK.other, hints := [0] }) ∧
    (tiOf Tryd.prog 21 = some { size := 1, bytes := 4, zero := some (Value.int IntKind.i32 0), kind := TK.int IntKind.i32, hints := [0] }) ∧
    (tiOf Tryd.prog 22 = some { size := 1, bytes := 24, zero := some (Value.slice none 0 0), kind := TK.slc 53, hints := [3] }) ∧
    (tiOf Tryd.prog 23 = some { size := 1, bytes := 8, zero := some Value.nilFunc, kind := TK.other, hints := [0] }) ∧
    (tiOf Tryd.prog 24 = some { size := 1, bytes := 8, zero := some Value.nilFunc, kind := TK.other, hints := [0] }) ∧
    (tiOf Tryd.prog 25 = some { size := 1, bytes := 0, zero := some (Value.tuple #[Value.string { data := #[] }, Value.int IntKind.i64 0]), kind := TK.other, hints := [0] }) ∧
    (tiOf Tryd.prog 26 = some { size := 1, bytes := 8, zero := some Value.nilFunc, kind := TK.other, hints := [0] }) ∧
    (tiOf Tryd.prog 27 = some { size := 1, bytes := 24, zero := some (Value.slice none 0 0), kind := TK.slc 37, hints := [8] }) ∧
    (tiOf Tryd.prog 28 = some { size := 1, bytes := 8, zero := some Value.nilFunc, kind := TK.other, hints := [0] }) ∧
    (tiOf Tryd.prog 29 = some { size := 1, bytes := 8, zero := some Value.nilFunc, kind := TK.other, hints := [0] }) ∧
    (tiOf Tryd.prog 30 = some { size := 6, bytes := 72, zero := some (Value.agg #[Value.int IntKind.i64 0, Value.int IntKind.i64 0, Value.int IntKind.i64 0, Value.string { data := #[] }, Value.bool false, Value.slice none 0 0]), kind := TK.st [(0, 1), (1, 1), (2, 1), (3, 1), (4, 1), (5, 1)], hints := [0, 0, 0, 0, 0, 3] }) ∧
    (tiOf Tryd.prog 31 = some { size := 6, bytes := 72, zero := some (Value.agg #[Value.int IntKind.i64 0, Value.int IntKind.i64 0, Value.int IntKind.i64 0, Value.string { data := #[] }, Value.bool false, Value.slice none 0 0]), kind := TK.st [(0, 1), (1, 1), (2, 1), (3, 1), (4, 1), (5, 1)], hints := [0, 0, 0, 0, 0, 3] }) ∧
    (tiOf Tryd.prog 32 = some { size := 1, bytes := 24, zero := some (Value.slice none 0 0), kind := TK.slc 31, hints := [6] }) ∧
    (tiOf Tryd.prog 33 = some { size := 1, bytes := 0, zero := some (Value.tuple #[Value.slice none 0 0, Value.int IntKind.i64 0]), kind := TK.other, hints := [0] }) ∧
    (tiOf Tryd.prog 34 = some { size := 1, bytes := 8, zero := some Value.nilFunc, kind := TK.other, hints := [0] }) ∧
    (tiOf Tryd.prog 35 = some { size := 1, bytes := 8, zero := some Value.nilFunc, kind := TK.other, hints := [0] }) ∧
    (tiOf Tryd.prog 36 = some { size := 8, bytes := 64, zero := some (Value.agg #[Value.int IntKind.i64 0, Value.slice none 0 0, Value.bool false, Value.bool false, Value.bool false, Value.bool false, Value.int IntKind.i64 0, Value.string { data := #[] }]), kind := TK.st [(0, 1), (1, 1), (2, 1), (3, 1), (4, 1), (5, 1), (6, 1), (7, 1)], hints := [0, 3, 0, 0, 0, 0, 0, 0] }) ∧
    (tiOf Tryd.prog 37 = some { size := 8, bytes := 64, zero := some (Value.agg #[Value.int IntKind.i64 0, Value.slice none 0 0, Value.bool false, Value.bool false, Value.bool false, Value.bool false, Value.int IntKind.i64 0, Value.string { data := #[] }]), kind := TK.st [(0, 1), (1, 1), (2, 1), (3, 1), (4, 1), (5, 1), (6, 1), (7, 1)], hints := [0, 3, 0, 0, 0, 0, 0, 0] }) ∧
    (tiOf Tryd.prog 38 = some { size := 1, bytes := 8, zero := some Value.nilFunc, kind := TK.other, hints := [0] }) ∧
    (tiOf Tryd.prog 39 = some { size := 1, bytes := 24, zero := some (Value.slice none 0 0), kind := TK.slc 46, hints := [8] }) ∧
    (tiOf Tryd.prog 40 = some { size := 1, bytes := 8, zero := some Value.nilFunc, kind := TK.other, hints := [0] }) ∧
    (tiOf Tryd.prog 41 = some { size := 1, bytes := 8, zero := some Value.nilFunc, kind := TK.other, hints := [0] }) ∧
    (tiOf Tryd.prog 42 = some { size := 1, bytes := 8, zero := some Value.nilFunc, kind := TK.other, hints := [0] }) ∧
    (tiOf Tryd.prog 43 = some { size := 1, bytes := 8, zero := some Value.nilFunc, kind := TK.other, hints := [0] }) ∧
    (tiOf Tryd.prog 44 = some { size := 1, bytes := 8, zero := some Value.nilFunc, kind := TK.other, hints := [0] }) ∧
    (tiOf Tryd.prog 45 = some { size := 1, bytes := 8, zero := some Value.nilFunc, kind := TK.other, hints := [0] }) ∧
    (tiOf Tryd.prog 46 = some { size := 8, bytes := 64, zero := some (Value.agg #[Value.int IntKind.i64 0, Value.slice none 0 0, Value.bool false, Value.bool false, Value.bool false, Value.bool false, Value.int IntKind.i64 0, Value.string { data := #[] }]), kind := TK.st [(0, 1), (1, 1), (2, 1), (3, 1), (4, 1), (5, 1), (6, 1), (7, 1)], hints := [0, 3, 0, 0, 0, 0, 0, 0] }) ∧
    (tiOf Tryd.prog 47 = some { size := 1, bytes := 8, zero := some Value.nilFunc, kind := TK.other, hints := [0] }) ∧
    (tiOf Tryd.prog 48 = some { size := 1, bytes := 0, zero := some (Value.tuple #[Value.agg #[Value.int IntKind.i64 0, Value.slice none 0 0, Value.bool false, Value.bool false, Value.bool false, Value.bool false, Value.int IntKind.i64 0, Value.string { data := #[] }], Value.bool false]), kind := TK.other, hints := [0] }) ∧
    (tiOf Tryd.prog 49 = some { size := 1, bytes := 8, zero := some Value.nilFunc, kind := TK.other, hints := [0] }) ∧
    (tiOf Tryd.prog 50 = some { size := 1, bytes := 8, zero := some Value.nilFunc, kind := TK.other, hints := [0] }) ∧
    (tiOf Tryd.prog 51 = some { size := 1, bytes := 8, zero := some Value.nilFunc, kind := TK.other, hints := [0] }) ∧
    (tiOf Tryd.prog 52 = some { size := 3, bytes := 32, zero := some (Value.agg #[Value.int IntKind.i64 0, Value.int IntKind.i64 0, Value.string { data := #[] }]), kind := TK.st [(0, 1), (1, 1), (2, 1)], hints := [0, 0, 0] }) ∧
    (tiOf Tryd.prog 53 = some { size := 3, bytes := 32, zero := some (Value.agg #[Value.int IntKind.i64 0, Value.int IntKind.i64 0, Value.string { data := #[] }]), kind := TK.st [(0, 1), (1, 1), (2, 1)], hints := [0, 0, 0] }) ∧
    (tiOf Tryd.prog 54 = some { size := 1, bytes := 8, zero := some Value.nilFunc, kind := TK.other, hints := [0] }) ∧
    (tiOf Tryd.prog 55 = some { size := 4, bytes := 32, zero := some (Value.agg #[Value.int IntKind.i64 0, Value.int IntKind.i64 0, Value.int IntKind.i64 0, Value.int IntKind.i64 0]), kind := TK.arr 4 3, hints := [0, 0, 0, 0] }) ∧
    (tiOf Tryd.prog 56 = some { size := 16, bytes := 128, zero := some (Value.agg #[Value.int IntKind.i64 0, Value.int IntKind.i64 0, Value.int IntKind.i64 0, Value.int IntKind.i64 0, Value.int IntKind.i64 0, Value.int IntKind.i64 0, Value.int IntKind.i64 0, Value.int IntKind.i64 0, Value.int IntKind.i64 0, Value.int IntKind.i64 0, Value.int IntKind.i64 0, Value.int IntKind.i64 0, Value.int IntKind.i64 0, Value.int IntKind.i64 0, Value.int IntKind.i64 0, Value.int IntKind.i64 0]), kind := TK.arr 4 55, hints := [0, 0, 0, 0, 0, 0, 0, 0, 0, 0, 0, 0, 0, 0, 0, 0] }) ∧
    (tiOf Tryd.prog 57 = some { size := 1, bytes := 8, zero := some (Value.int IntKind.i64 0), kind := TK.int IntKind.i64, hints := [0] }) ∧
    (tiOf Tryd.prog 58 = some { size := 1, bytes := 0, zero := some (Value.tuple #[Value.slice none 0 0, Value.slice none 0 0, Value.int IntKind.i64 0]), kind := TK.other, hints := [0] }) ∧
    (tiOf Tryd.prog 59 = some { size := 1, bytes := 8, zero := some Value.nilFunc, kind := TK.other, hints := [0] }) ∧
    (tiOf Tryd.prog 60 = some { size := 1, bytes := 8, zero := some Value.nilFunc, kind := TK.other, hints := [0] }) ∧
    (tiOf Tryd.prog 61 = some { size := 1, bytes := 24, zero := some (Value.slice none 0 0), kind := TK.slc 3, hints := [1] }) ∧
    (tiOf Tryd.prog 62 = some { size := 1, bytes := 8, zero := some Value.nilFunc, kind := TK.other, hints := [0] }) ∧
    (tiOf Tryd.prog 63 = some { size := 1, bytes := 8, zero := some Value.nilFunc, kind := TK.other, hints := [0] }) ∧
    (tiOf Tryd.prog 64 = some { size := 1, bytes := 8, zero := some Value.nilFunc, kind := TK.other, hints := [0] }) ∧
    (tiOf Tryd.prog 65 = some { size := 1, bytes := 8, zero := some Value.nilFunc, kind := TK.other, hints := [0] }) ∧
    (tiOf Tryd.prog 66 = some { size := 1, bytes := 8, zero := some Value.nilFunc, kind := TK.other, hints := [0] }) ∧
    (tiOf Tryd.prog 67 = some { size := 1, bytes := 8, zero := some Value.nilFunc, kind := TK.other, hints := [0] }) ∧
    (tiOf Tryd.prog 68 = some { size := 1, bytes := 8, zero := some Value.nilFunc, kind := TK.other, hints := [0] }) ∧
    (tiOf Tryd.prog 69 = some { size := 1, bytes := 8, zero := some Value.nilFunc, kind := TK.other, hints := [0] }) ∧
    (tiOf Tryd.prog 70 = some { size := 1, bytes := 8, zero := some Value.nilFunc, kind := TK.other, hints := [0] }) ∧
    (tiOf Tryd.prog 71 = some { size := 1, bytes := 8, zero := some Value.nilFunc, kind := TK.other, hints := [0] }) ∧
    (tiOf Tryd.prog 72 = some { size := 1, bytes := 8, zero := some Value.nilFunc, kind := TK.other, hints := [0] }) ∧
    (tiOf Tryd.prog 73 = some { size := 1, bytes := 8, zero := some Value.nilFunc, kind := TK.other, hints := [0] }) ∧
    (tiOf Tryd.prog 74 = some { size := 1, bytes := 8, zero := some (Value.pointer none), kind := TK.other, hints := [0] }) ∧
    (tiOf Tryd.prog 75 = some { size := 3, bytes := 40, zero := some (Value.agg #[Value.slice none 0 0, Value.int IntKind.i64 0, Value.int IntKind.i64 0]), kind := TK.st [(0, 1), (1, 1), (2, 1)], hints := [3, 0, 0] }) ∧
    (tiOf Tryd.prog 76 = some { size := 3, bytes := 40, zero := some (Value.agg #[Value.slice none 0 0, Value.int IntKind.i64 0, Value.int IntKind.i64 0]), kind := TK.st [(0, 1), (1, 1), (2, 1)], hints := [3, 0, 0] }) ∧
    (tiOf Tryd.prog 77 = some { size := 1, bytes := 8, zero := some Value.nilFunc, kind := TK.other, hints := [0] }) ∧
    (tiOf Tryd.prog 78 = some { size := 1, bytes := 8, zero := some Value.nilFunc, kind := TK.other, hints := [0] }) ∧
    (tiOf Tryd.prog 79 = some { size := 1, bytes := 8, zero := some Value.nilFunc, kind := TK.other, hints := [0] }) ∧
    (tiOf Tryd.prog 80 = some { size := 1, bytes := 8, zero := some Value.nilFunc, kind := TK.other, hints := [0] }) ∧
    (tiOf Tryd.prog 81 = some { size := 1, bytes := 8, zero := some Value.nilFunc, kind := TK.other, hints := [0] }) ∧
    (tiOf Tryd.prog 82 = some { size := 1, bytes := 8, zero := some Value.nilFunc, kind := TK.other, hints := [0] }) ∧
    (tiOf Tryd.prog 83 = some { size := 1, bytes := 8, zero := some Value.nilFunc, kind := TK.other, hints := [0] }) ∧
    (tiOf Tryd.prog 84 = some { size := 1, bytes := 8, zero := some Value.nilFunc, kind := TK.other, hints := [0] }) ∧
    (tiOf Tryd.prog 85 = some { size := 1, bytes := 0, zero := some (Value.tuple #[Value.agg #[Value.int IntKind.i64 0, Value.int IntKind.i64 0, Value.int IntKind.i64 0, Value.string { data := #[] }, Value.bool false, Value.slice none 0 0], Value.int IntKind.i64 0]), kind := TK.other, hints := [0] }) ∧
    (tiOf Tryd.prog 86 = some { size := 1, bytes := 8, zero := some Value.nilFunc, kind := TK.other, hints := [0] }) ∧
    (tiOf Tryd.prog 87 = some { size := 1, bytes := 8, zero := some Value.nilFunc, kind := TK.other, hints := [0] }) ∧
    (tiOf Tryd.prog 88 = some { size := 3, bytes := 24, zero := some (Value.agg #[Value.int IntKind.i64 0, Value.bool false, Value.int IntKind.i64 0]), kind := TK.st [(0, 1), (1, 1), (2, 1)], hints := [0, 0, 0] }) ∧
    (tiOf Tryd.prog 89 = some { size := 3, bytes := 24, zero := some (Value.agg #[Value.int IntKind.i64 0, Value.bool false, Value.int IntKind.i64 0]), kind := TK.st [(0, 1), (1, 1), (2, 1)], hints := [0, 0, 0] }) ∧
    (tiOf Tryd.prog 90 = some { size := 21, bytes := 168, zero := some (Value.agg #[Value.int IntKind.i64 0, Value.bool false, Value.int IntKind.i64 0, Value.int IntKind.i64 0, Value.bool false, Value.int IntKind.i64 0, Value.int IntKind.i64 0, Value.bool false, Value.int IntKind.i64 0, Value.int IntKind.i64 0, Value.bool false, Value.int IntKind.i64 0, Value.int IntKind.i64 0, Value.bool false, Value.int IntKind.i64 0, Value.int IntKind.i64 0, Value.bool false, Value.int IntKind.i64 0, Value.int IntKind.i64 0, Value.bool false, Value.int IntKind.i64 0]), kind := TK.arr 7 89, hints := [0, 0, 0, 0, 0, 0, 0, 0, 0, 0, 0, 0, 0, 0, 0, 0, 0, 0, 0, 0, 0] }) ∧
    (tiOf Tryd.prog 91 = some { size := 1, bytes := 0, zero := some (Value.tuple #[Value.slice none 0 0, Value.bool false]), kind := TK.other, hints := [0] }) ∧
    (tiOf Tryd.prog 92 = some { size := 1, bytes := 8, zero := some Value.nilFunc, kind := TK.other, hints := [0] }) ∧
    (tiOf Tryd.prog 93 = some { size := 1, bytes := 8, zero := some Value.nilFunc, kind := TK.other, hints := [0] }) ∧
    (tiOf Tryd.prog 94 = some { size := 1, bytes := 0, zero := some (Value.tuple #[Value.slice none 0 0, Value.int IntKind.i64 0]), kind := TK.other, hints := [0] }) ∧
    (tiOf Tryd.prog 95 = some { size := 1, bytes := 8, zero := some Value.nilFunc, kind := TK.other, hints := [0] }) ∧
    (tiOf Tryd.prog 96 = some { size := 1, bytes := 8, zero := some Value.nilFunc, kind := TK.other, hints := [0] }) ∧
    (tiOf Tryd.prog 97 = some { size := 1, bytes := 8, zero := some Value.nilFunc, kind := TK.other, hints := [0] }) ∧
    (tiOf Tryd.prog 98 = some { size := 1, bytes := 8, zero := some (Value.pointer none), kind := TK.other, hints := [0] }) ∧
    (tiOf Tryd.prog 99 = some { size := 1, bytes := 8, zero := some Value.nilFunc, kind := TK.other, hints := [0] }) ∧
    (tiOf Tryd.prog 100 = some { size := 1, bytes := 8, zero := some Value.nilFunc, kind := TK.other, hints := [0] }) ∧
    (tiOf Tryd.prog 101 = some { size := 1, bytes := 8, zero := some (Value.int IntKind.u64 0), kind := TK.int IntKind.u64, hints := [0] }) ∧
    (tiOf Tryd.prog 102 = some { size := 1, bytes := 8, zero := some Value.nilFunc, kind := TK.other, hints := [0] }) ∧
    (tiOf Tryd.prog 103 = some { size := 1, bytes := 8, zero := some Value.nilFunc, kind := TK.other, hints := [0] }) ∧
    (tiOf Tryd.prog 104 = some { size := 1, bytes := 8, zero := some Value.nilFunc, kind := TK.other, hints := [0] }) ∧
    (tiOf Tryd.prog 105 = some { size := 1, bytes := 8, zero := some Value.nilFunc, kind := TK.other, hints := [0] }) ∧
    (tiOf Tryd.prog 106 = some { size := 1, bytes := 8, zero := some Value.nilFunc, kind := TK.other, hints := [0] }) ∧
    (tiOf Tryd.prog 107 = some { size := 1, bytes := 0, zero := some (Value.tuple #[Value.int IntKind.i64 0, Value.int IntKind.i64 0]), kind := TK.other, hints := [0] }) ∧
    (tiOf Tryd.prog 108 = some { size := 1, bytes := 8, zero := some Value.nilFunc, kind := TK.other, hints := [0] }) ∧
    (tiOf Tryd.prog 109 = some { size := 1, bytes := 8, zero := some (Value.pointer none), kind := TK.other, hints := [0] }) ∧
    (tiOf Tryd.prog 110 = some { size := 1, bytes := 8, zero := some Value.nilFunc, kind := TK.other, hints := [0] }) ∧
    (tiOf Tryd.prog 111 = some { size := 1, bytes := 8, zero := some Value.nilFunc, kind := TK.other, hints := [0] }) ∧
    (tiOf Tryd.prog 112 = some { size := 1, bytes := 8, zero := some Value.nilFunc, kind := TK.other, hints := [0] }) ∧
    (tiOf Tryd.prog 113 = some { size := 1, bytes := 8, zero := some Value.nilFunc, kind := TK.other, hints := [0] }) ∧
    (tiOf Tryd.prog 114 = some { size := 1, bytes := 8, zero := some (Value.int IntKind.i64 0), kind := TK.int IntKind.i64, hints := [0] }) ∧
    (tiOf Tryd.prog 115 = some { size := 1, bytes := 0, zero := some (Value.tuple #[Value.int IntKind.i64 0, Value.int IntKind.i64 0]), kind := TK.other, hints := [0] }) ∧
    (tiOf Tryd.prog 116 = some { size := 1, bytes := 8, zero := some Value.nilFunc, kind := TK.other, hints := [0] }) ∧
    (tiOf Tryd.prog 117 = some { size := 1, bytes := 8, zero := some Value.nilFunc, kind := TK.other, hints := [0] }) ∧
    (tiOf Tryd.prog 118 = some { size := 1, bytes := 8, zero := some Value.nilFunc, kind := TK.other, hints := [0] }) ∧
    (tiOf Tryd.prog 119 = some { size := 1, bytes := 0, zero := some (Value.tuple #[Value.int IntKind.i64 0, Value.bool false]), kind := TK.other, hints := [0] }) ∧
    (tiOf Tryd.prog 120 = some { size := 1, bytes := 8, zero := some Value.nilFunc, kind := TK.other, hints := [0] }) ∧
    (tiOf Tryd.prog 121 = some { size := 1, bytes := 8, zero := some Value.nilFunc, kind := TK.other, hints := [0] }) ∧
    (tiOf Tryd.prog 122 = some { size := 1, bytes := 4, zero := some (Value.int IntKind.u32 0), kind := TK.int IntKind.u32, hints := [0] }) ∧
    (tiOf Tryd.prog 123 = some { size := 1, bytes := 8, zero := some Value.nilFunc, kind := TK.other, hints := [0] }) ∧
    (tiOf Tryd.prog 124 = some { size := 1, bytes := 8, zero := some (Value.int IntKind.u64 0), kind := TK.int IntKind.u64, hints := [0] }) ∧
    (tiOf Tryd.prog 125 = some { size := 1, bytes := 8, zero := some Value.nilFunc, kind := TK.other, hints := [0] }) ∧
    (tiOf Tryd.prog 126 = some { size := 1, bytes := 8, zero := some Value.nilFunc, kind := TK.other, hints := [0] }) ∧
    (tiOf Tryd.prog 127 = some { size := 1, bytes := 8, zero := some Value.nilFunc, kind := TK.other, hints := [0] }) ∧
    (tiOf Tryd.prog 128 = some { size := 1, bytes := 8, zero := some Value.nilFunc, kind := TK.other, hints := [0] }) ∧
    (tiOf Tryd.prog 129 = some { size := 2, bytes := 32, zero := some (Value.agg #[Value.slice none 0 0, Value.int IntKind.i64 0]), kind := TK.st [(0, 1), (1, 1)], hints := [3, 0] }) ∧
    (tiOf Tryd.prog 130 = some { size := 2, bytes := 32, zero := some (Value.agg #[Value.slice none 0 0, Value.int IntKind.i64 0]), kind := TK.st [(0, 1), (1, 1)], hints := [3, 0] }) ∧
    (tiOf Tryd.prog 131 = some { size := 1, bytes := 0, zero := some (Value.tuple #[Value.string { data := #[] }, Value.int IntKind.i64 0]), kind := TK.other, hints := [0] }) ∧
    (tiOf Tryd.prog 132 = some { size := 1, bytes := 8, zero := some Value.nilFunc, kind := TK.other, hints := [0] }) ∧
    (tiOf Tryd.prog 133 = some { size := 1, bytes := 8, zero := some Value.nilFunc, kind := TK.other, hints := [0] }) ∧
    (tiOf Tryd.prog 134 = some { size := 1, bytes := 8, zero := some Value.nilFunc, kind := TK.other, hints := [0] }) ∧
    (tiOf Tryd.prog 135 = some { size := 1, bytes := 8, zero := some (Value.int IntKind.u64 0), kind := TK.int IntKind.u64, hints := [0] }) ∧
    (tiOf Tryd.prog 136 = some { size := 1, bytes := 8, zero := some Value.nilFunc, kind := TK.other, hints := [0] }) ∧
    (tiOf Tryd.prog 137 = some { size := 1, bytes := 8, zero := some Value.nilFunc, kind := TK.other, hints := [0] }) ∧
    (tiOf Tryd.prog 138 = some { size := 1, bytes := 8, zero := some Value.nilFunc, kind := TK.other, hints := [0] }) ∧
    (tiOf Tryd.prog 139 = some { size := 1, bytes := 8, zero := some (Value.pointer none), kind := TK.other, hints := [0] }) ∧
    (tiOf Tryd.prog 140 = some { size := 1, bytes := 8, zero := some Value.nilFunc, kind := TK.other, hints := [0] }) ∧
    (tiOf Tryd.prog 141 = some { size := 1, bytes := 24, zero := some (Value.slice none 0 0), kind := TK.slc 5, hints := [1] }) ∧
    (tiOf Tryd.prog 142 = some { size := 1, bytes := 8, zero := some Value.nilFunc, kind := TK.other, hints := [0] }) ∧
    (tiOf Tryd.prog 143 = some { size := 1, bytes := 0, zero := some (Value.tuple #[Value.int IntKind.i64 0, Value.int IntKind.i64 0]), kind := TK.other, hints := [0] }) ∧
    (tiOf Tryd.prog 144 = some { size := 1, bytes := 8, zero := some Value.nilFunc, kind := TK.other, hints := [0] }) ∧
    (tiOf Tryd.prog 145 = some { size := 9, bytes := 96, zero := some (Value.agg #[Value.int IntKind.i64 0, Value.int IntKind.i64 0, Value.string { data := #[] }, Value.int IntKind.i64 0, Value.int IntKind.i64 0, Value.string { data := #[] }, Value.int IntKind.i64 0, Value.int IntKind.i64 0, Value.string { data := #[] }]), kind := TK.arr 3 53, hints := [0, 0, 0, 0, 0, 0, 0, 0, 0] }) ∧
    (tiOf Tryd.prog 146 = some { size := 1, bytes := 8, zero := some (Value.pointer none), kind := TK.other, hints := [0] }) ∧
    (tiOf Tryd.prog 147 = some { size := 1, bytes := 8, zero := some Value.nilFunc, kind := TK.other, hints := [0] }) ∧
    (tiOf Tryd.prog 148 = some { size := 1, bytes := 8, zero := some Value.nilFunc, kind := TK.other, hints := [0] }) ∧
    (tiOf Tryd.prog 149 = some { size := 1, bytes := 8, zero := some Value.nilFunc, kind := TK.other, hints := [0] }) ∧
    (tiOf Tryd.prog 150 = some { size := 1, bytes := 8, zero := some Value.nilFunc, kind := TK.other, hints := [0] }) ∧
    (tiOf Tryd.prog 151 = some { size := 256, bytes := 256, zero := some (Value.agg #[Value.int IntKind.u8 0, Value.int IntKind.u8 0, Value.int IntKind.u8 0, Value.int IntKind.u8 0, Value.int IntKind.u8 0, Value.int IntKind.u8 0, Value.int IntKind.u8 0, Value.int IntKind.u8 0, Value.int IntKind.u8 0, Value.int IntKind.u8 0, Value.int IntKind.u8 0, Value.int IntKind.u8 0, Value.int IntKind.u8 0, Value.int IntKind.u8 0, Value.int IntKind.u8 0, Value.int IntKind.u8 0, Value.int IntKind.u8 0, Value.int IntKind.u8 0, Value.int IntKind.u8 0, Value.int IntKind.u8 0, Value.int IntKind.u8 0, Value.int IntKind.u8 0, Value.int IntKind.u8 0, Value.int IntKind.u8 0, Value.int IntKind.u8 0, Value.int IntKind.u8 0, Value.int IntKind.u8 0, Value.int IntKind.u8 0, Value.int IntKind.u8 0, Value.int IntKind.u8 0, Value.int IntKind.u8 0, Value.int IntKind.u8 0, Value.int IntKind.u8 0, Value.int IntKind.u8 0, Value.int IntKind.u8 0, Value.int IntKind.u8 0, Value.int IntKind.u8 0, Value.int IntKind.u8 0, Value.int IntKind.u8 0, Value.int IntKind.u8 0, Value.int IntKind.u8 0, Value.int IntKind.u8 0, Value.int IntKind.u8 0, Value.int IntKind.u8 0, Value.int IntKind.u8 0, Value.int IntKind.u8 0, Value.int IntKind.u8 0, Value.int IntKind.u8 0, Value.int IntKind.u8 0, Value.int IntKind.u8 0, Value.int IntKind.u8 0, Value.int IntKind.u8 0, Value.int IntKind.u8 0, Value.int IntKind.u8 0, Value.int IntKind.u8 0, Value.int IntKind.u8 0, Value.int IntKind.u8 0, Value.int IntKind.u8 0, Value.int IntKind.u8 0, Value.int IntKind.u8 0, Value.int IntKind.u8 0, Value.int IntKind.u8 0, Value.int IntKind.u8 0, Value.int IntKind.u8 0, Value.int IntKind.u8 0, Value.int IntKind.u8 0, Value.int IntKind.u8 0, Value.int IntKind.u8 0, Value.int IntKind.u8 0, Value.int IntKind.u8 0, Value.int IntKind.u8 0, Value.int IntKind.u8 0, Value.int IntKind.u8 0, Value.int IntKind.u8 0, Value.int IntKind.u8 0, Value.int IntKind.u8 0, Value.int IntKind.u8 0, Value.int IntKind.u8 0, Value.int IntKind.u8 0, Value.int IntKind.u8 0, Value.int IntKind.u8 0, Value.int IntKind.u8 0, Value.int IntKind.u8 0, Value.int IntKind.u8 0, Value.int IntKind.u8 0, Value.int IntKind.u8 0, Value.int IntKind.u8 0, Value.int IntKind.u8 0, Value.int IntKind.u8 0, Value.int IntKind.u8 0, Value.int IntKind.u8 0, Value.int IntKind.u8 0, Value.int IntKind.u8 0, Value.int IntKind.u8 0, Value.int IntKind.u8 0, Value.int IntKind.u8 0, Value.int IntKind.u8 0, Value.int IntKind.u8 0, Value.int IntKind.u8 0, Value.int IntKind.u8 0, Value.int IntKind.u8 0, Value.int IntKind.u8 0, Value.int IntKind.u8 0, Value.int IntKind.u8 0, Value.int IntKind.u8 0, Value.int IntKind.u8 0, Value.int IntKind.u8 0, Value.int IntKind.u8 0, Value.int IntKind.u8 0, Value.int IntKind.u8 0, Value.int IntKind.u8 0, Value.int IntKind.u8 0, Value.int IntKind.u8 0, Value.int IntKind.u8 0, Value.int IntKind.u8 0, Value.int IntKind.u8 0, Value.int IntKind.u8 0, Value.int IntKind.u8 0, Value.int IntKind.u8 0, Value.int IntKind.u8 0, Value.int IntKind.u8 0, Value.int IntKind.u8 0, Value.int IntKind.u8 0, Value.int IntKind.u8 0, Value.int IntKind.u8 0, Value.int IntKind.u8 0, Value.int IntKind.u8 0, Value.int IntKind.u8 0, Value.int IntKind.u8 0, Value.int IntKind.u8 0, Value.int IntKind.u8 0, Value.int IntKind.u8 0, Value.int IntKind.u8 0, Value.int IntKind.u8 0, Value.int IntKind.u8 0, Value.int IntKind.u8 0, Value.int IntKind.u8 0, Value.int IntKind.u8 0, Value.int IntKind.u8 0, Value.int IntKind.u8 0, Value.int IntKind.u8 0, Value.int IntKind.u8 0, Value.int IntKind.u8 0, Value.int IntKind.u8 0, Value.int IntKind.u8 0, Value.int IntKind.u8 0, Value.int IntKind.u8 0, Value.int IntKind.u8 0, Value.int IntKind.u8 0, Value.int IntKind.u8 0, Value.int IntKind.u8 0, Value.int IntKind.u8 0, Value.int IntKind.u8 0, Value.int IntKind.u8 0, Value.int IntKind.u8 0, Value.int IntKind.u8 0, Value.int IntKind.u8 0, Value.int IntKind.u8 0, Value.int IntKind.u8 0, Value.int IntKind.u8 0, Value.int IntKind.u8 0, Value.int IntKind.u8 0, Value.int IntKind.u8 0, Value.int IntKind.u8 0, Value.int IntKind.u8 0, Value.int IntKind.u8 0, Value.int IntKind.u8 0, Value.int IntKind.u8 0, Value.int IntKind.u8 0, Value.int IntKind.u8 0, Value.int IntKind.u8 0, Value.int IntKind.u8 0, Value.int IntKind.u8 0, Value.int IntKind.u8 0, Value.int IntKind.u8 0, Value.int IntKind.u8 0, Value.int IntKind.u8 0, Value.int IntKind.u8 0, Value.int IntKind.u8 0, Value.int IntKind.u8 0, Value.int IntKind.u8 0, Value.int IntKind.u8 0, Value.int IntKind.u8 0, Value.int IntKind.u8 0, Value.int IntKind.u8 0, Value.int IntKind.u8 0, Value.int IntKind.u8 0, Value.int IntKind.u8 0, Value.int IntKind.u8 0, Value.int IntKind.u8 0, Value.int IntKind.u8 0, Value.int IntKind.u8 0, Value.int IntKind.u8 0, Value.int IntKind.u8 0, Value.int IntKind.u8 0, Value.int IntKind.u8 0, Value.int IntKind.u8 0, Value.int IntKind.u8 0, Value.int IntKind.u8 0, Value.int IntKind.u8 0, Value.int IntKind.u8 0, Value.int IntKind.u8 0, Value.int IntKind.u8 0, Value.int IntKind.u8 0, Value.int IntKind.u8 0, Value.int IntKind.u8 0, Value.int IntKind.u8 0, Value.int IntKind.u8 0, Value.int IntKind.u8 0, Value.int IntKind.u8 0, Value.int IntKind.u8 0, Value.int IntKind.u8 0, Value.int IntKind.u8 0, Value.int IntKind.u8 0, Value.int IntKind.u8 0, Value.int IntKind.u8 0, Value.int IntKind.u8 0, Value.int IntKind.u8 0, Value.int IntKind.u8 0, Value.int IntKind.u8 0, Value.int IntKind.u8 0, Value.int IntKind.u8 0, Value.int IntKind.u8 0, Value.int IntKind.u8 0, Value.int IntKind.u8 0, Value.int IntKind.u8 0, Value.int IntKind.u8 0, Value.int IntKind.u8 0, Value.int IntKind.u8 0, Value.int IntKind.u8 0, Value.int IntKind.u8 0, Value.int IntKind.u8 0, Value.int IntKind.u8 0, Value.int IntKind.u8 0, Value.int IntKind.u8 0, Value.int IntKind.u8 0, Value.int IntKind.u8 0, Value.int IntKind.u8 0, Value.int IntKind.u8 0, Value.int IntKind.u8 0, Value.int IntKind.u8 0, Value.int IntKind.u8 0, Value.int IntKind.u8 0, Value.int IntKind.u8 0, Value.int IntKind.u8 0, Value.int IntKind.u8 0, Value.int IntKind.u8 0, Value.int IntKind.u8 0, Value.int IntKind.u8 0, Value.int IntKind.u8 0, Value.int IntKind.u8 0, Value.int IntKind.u8 0, Value.int IntKind.u8 0, Value.int IntKind.u8 0, Value.int IntKind.u8 0, Value.int IntKind.u8 0]), kind := TK.arr 256 5, hints := [0, 0, 0, 0, 0, 0, 0, 0, 0, 0, 0, 0, 0, 0, 0, 0, 0, 0, 0, 0, 0, 0, 0, 0, 0, 0, 0, 0, 0, 0, 0, 0, 0, 0, 0, 0, 0, 0, 0, 0, 0, 0, 0, 0, 0, 0, 0, 0, 0, 0, 0, 0, 0, 0, 0, 0, 0, 0, 0, 0, 0, 0, 0, 0, 0, 0, 0, 0, 0, 0, 0, 0, 0, 0, 0, 0, 0, 0, 0, 0, 0, 0, 0, 0, 0, 0, 0, 0, 0, 0, 0, 0, 0, 0, 0, 0, 0, 0, 0, 0, 0, 0, 0, 0, 0, 0, 0, 0, 0, 0, 0, 0, 0, 0, 0, 0, 0, 0, 0, 0, 0, 0, 0, 0, 0, 0, 0, 0, 0, 0, 0, 0, 0, 0, 0, 0, 0, 0, 0, 0, 0, 0, 0, 0, 0, 0, 0, 0, 0, 0, 0, 0, 0, 0, 0, 0, 0, 0, 0, 0, 0, 0, 0, 0, 0, 0, 0, 0, 0, 0, 0, 0, 0, 0, 0, 0, 0, 0, 0, 0, 0, 0, 0, 0, 0, 0, 0, 0, 0, 0, 0, 0, 0, 0, 0, 0, 0, 0, 0, 0, 0, 0, 0, 0, 0, 0, 0, 0, 0, 0, 0, 0, 0, 0, 0, 0, 0, 0, 0, 0, 0, 0, 0, 0, 0, 0, 0, 0, 0, 0, 0, 0, 0, 0, 0, 0, 0, 0, 0, 0, 0, 0, 0, 0, 0, 0, 0, 0, 0, 0, 0, 0, 0, 0, 0, 0] }) ∧
    (tiOf Tryd.prog 152 = some { size := 2, bytes := 2, zero := some (Value.agg #[Value.int IntKind.u8 0, Value.int IntKind.u8 0]), kind := TK.st [(0, 1), (1, 1)], hints := [0, 0] }) ∧
    (tiOf Tryd.prog 153 = some { size := 2, bytes := 2, zero := some (Value.agg #[Value.int IntKind.u8 0, Value.int IntKind.u8 0]), kind := TK.st [(0, 1), (1, 1)], hints := [0, 0] }) ∧
    (tiOf Tryd.prog 154 = some { size := 32, bytes := 32, zero := some (Value.agg #[Value.int IntKind.u8 0, Value.int IntKind.u8 0, Value.int IntKind.u8 0, Value.int IntKind.u8 0, Value.int IntKind.u8 0, Value.int IntKind.u8 0, Value.int IntKind.u8 0, Value.int IntKind.u8 0, Value.int IntKind.u8 0, Value.int IntKind.u8 0, Value.int IntKind.u8 0, Value.int IntKind.u8 0, Value.int IntKind.u8 0, Value.int IntKind.u8 0, Value.int IntKind.u8 0, Value.int IntKind.u8 0, Value.int IntKind.u8 0, Value.int IntKind.u8 0, Value.int IntKind.u8 0, Value.int IntKind.u8 0, Value.int IntKind.u8 0, Value.int IntKind.u8 0, Value.int IntKind.u8 0, Value.int IntKind.u8 0, Value.int IntKind.u8 0, Value.int IntKind.u8 0, Value.int IntKind.u8 0, Value.int IntKind.u8 0, Value.int IntKind.u8 0, Value.int IntKind.u8 0, Value.int IntKind.u8 0, Value.int IntKind.u8 0]), kind := TK.arr 16 153, hints := [0, 0, 0, 0, 0, 0, 0, 0, 0, 0, 0, 0, 0, 0, 0, 0, 0, 0, 0, 0, 0, 0, 0, 0, 0, 0, 0, 0, 0, 0, 0, 0] }) ∧
    (tiOf Tryd.prog 155 = some { size := 1, bytes := 8, zero := some Value.nilFunc, kind := TK.other, hints := [0] }) ∧
    (tiOf Tryd.prog 156 = some { size := 1, bytes := 8, zero := some Value.nilFunc, kind := TK.other, hints := [0] }) ∧
    (tiOf Tryd.prog 157 = some { size := 1, bytes := 8, zero := some Value.nilFunc, kind := TK.other, hints := [0] }) ∧
    (tiOf Tryd.prog 158 = some { size := 1, bytes := 0, zero := some (Value.tuple #[Value.int IntKind.u32 0, Value.int IntKind.u32 0]), kind := TK.other, hints := [0] }) ∧
    (tiOf Tryd.prog 159 = some { size := 1, bytes := 8, zero := some Value.nilFunc, kind := TK.other, hints := [0] }) ∧
    (tiOf Tryd.prog 160 = some { size := 1, bytes := 8, zero := some Value.nilFunc, kind := TK.other, hints := [0] }) ∧
    (tiOf Tryd.prog 161 = some { size := 4, bytes := 40, zero := some (Value.agg #[Value.pointer none, Value.pointer none, Value.pointer none, Value.string { data := #[] }]), kind := TK.st [(0, 1), (1, 1), (2, 1), (3, 1)], hints := [0, 0, 0, 0] }) ∧
    (tiOf Tryd.prog 162 = some { size := 4, bytes := 40, zero := some (Value.agg #[Value.pointer none, Value.pointer none, Value.pointer none, Value.string { data := #[] }]), kind := TK.st [(0, 1), (1, 1), (2, 1), (3, 1)], hints := [0, 0, 0, 0] }) ∧
    (tiOf Tryd.prog 163 = some { size := 0, bytes := 0, zero := some (Value.agg #[]), kind := TK.arr 0 16, hints := [] }) ∧
    (tiOf Tryd.prog 164 = some { size := 0, bytes := 0, zero := some (Value.agg #[]), kind := TK.st [(0, 0)], hints := [] }) ∧
    (tiOf Tryd.prog 165 = some { size := 0, bytes := 0, zero := some (Value.agg #[]), kind := TK.st [(0, 0)], hints := [] }) ∧
    (tiOf Tryd.prog 166 = some { size := 1, bytes := 1, zero := some (Value.int IntKind.u8 0), kind := TK.int IntKind.u8, hints := [0] }) ∧
    (tiOf Tryd.prog 167 = some { size := 1, bytes := 1, zero := some (Value.int IntKind.u8 0), kind := TK.int IntKind.u8, hints := [0] }) ∧
    (tiOf Tryd.prog 168 = some { size := 1, bytes := 8, zero := some Value.nilFunc, kind := TK.other, hints := [0] }) ∧
    (tiOf Tryd.prog 169 = some { size := 1, bytes := 8, zero := some (Value.pointer none), kind := TK.other, hints := [0] }) ∧
    (tiOf Tryd.prog 170 = some { size := 1, bytes := 4, zero := some (Value.int IntKind.i32 0), kind := TK.int IntKind.i32, hints := [0] }) ∧
    (tiOf Tryd.prog 171 = some { size := 1, bytes := 4, zero := some (Value.int IntKind.i32 0), kind := TK.int IntKind.i32, hints := [0] }) ∧
    (tiOf Tryd.prog 172 = some { size := 11, bytes := 48, zero := some (Value.agg #[Value.int IntKind.u64 0, Value.int IntKind.u64 0, Value.int IntKind.u32 0, Value.int IntKind.u8 0, Value.int IntKind.u8 0, Value.int IntKind.u8 0, Value.int IntKind.u8 0, Value.nilFunc, Value.pointer none, Value.int IntKind.i32 0, Value.int IntKind.i32 0]), kind := TK.st [(0, 1), (1, 1), (2, 1), (3, 1), (4, 1), (5, 1), (6, 1), (7, 1), (8, 1), (9, 1), (10, 1)], hints := [0, 0, 0, 0, 0, 0, 0, 0, 0, 0, 0] }) ∧
    (tiOf Tryd.prog 173 = some { size := 11, bytes := 48, zero := some (Value.agg #[Value.int IntKind.u64 0, Value.int IntKind.u64 0, Value.int IntKind.u32 0, Value.int IntKind.u8 0, Value.int IntKind.u8 0, Value.int IntKind.u8 0, Value.int IntKind.u8 0, Value.nilFunc, Value.pointer none, Value.int IntKind.i32 0, Value.int IntKind.i32 0]), kind := TK.st [(0, 1), (1, 1), (2, 1), (3, 1), (4, 1), (5, 1), (6, 1), (7, 1), (8, 1), (9, 1), (10, 1)], hints := [0, 0, 0, 0, 0, 0, 0, 0, 0, 0, 0] }) ∧
    (tiOf Tryd.prog 174 = some { size := 1, bytes := 8, zero := some (Value.pointer none), kind := TK.other, hints := [0] }) :=
  ⟨by kernel_rfl, by kernel_rfl, by kernel_rfl, by kernel_rfl, by kernel_rfl, by kernel_rfl, by kernel_rfl, by kernel_rfl, by kernel_rfl, by kernel_rfl, by kernel_rfl, by kernel_rfl, by kernel_rfl, by kernel_rfl, by kernel_rfl, by kernel_rfl, by kernel_rfl, by kernel_rfl, by kernel_rfl, by kernel_rfl, by kernel_rfl, by kernel_rfl, by kernel_rfl, by kernel_rfl, by kernel_rfl, by kernel_rfl, by kernel_rfl, by kernel_rfl, by kernel_rfl, by kernel_rfl, by kernel_rfl, by kernel_rfl, by kernel_rfl, by kernel_rfl, by kernel_rfl, by kernel_rfl, by kernel_rfl, by kernel_rfl, by kernel_rfl, by kernel_rfl, by kernel_rfl, by kernel_rfl, by kernel_rfl, by kernel_rfl, by kernel_rfl, by kernel_rfl, by kernel_rfl, by kernel_rfl, by kernel_rfl, by kernel_rfl, by kernel_rfl, by kernel_rfl, by kernel_rfl, by kernel_rfl, by kernel_rfl, by kernel_rfl, by kernel_rfl, by kernel_rfl, by kernel_rfl, by kernel_rfl, by kernel_rfl, by kernel_rfl, by kernel_rfl, by kernel_rfl, by kernel_rfl, by kernel_rfl, by kernel_rfl, by kernel_rfl, by kernel_rfl, by kernel_rfl, by kernel_rfl, by kernel_rfl, by kernel_rfl, by kernel_rfl, by kernel_rfl, by kernel_rfl, by kernel_rfl, by kernel_rfl, by kernel_rfl, by kernel_rfl, by kernel_rfl, by kernel_rfl, by kernel_rfl, by kernel_rfl, by kernel_rfl, by kernel_rfl, by kernel_rfl, by kernel_rfl, by kernel_rfl, by kernel_rfl, by kernel_rfl, by kernel_rfl, by kernel_rfl, by kernel_rfl, by kernel_rfl, by kernel_rfl, by kernel_rfl, by kernel_rfl, by kernel_rfl, by kernel_rfl, by kernel_rfl, by kernel_rfl, by kernel_rfl, by kernel_rfl, by kernel_rfl, by kernel_rfl, by kernel_rfl, by kernel_rfl, by kernel_rfl, by kernel_rfl, by kernel_rfl, by kernel_rfl, by kernel_rfl, by kernel_rfl, by kernel_rfl, by kernel_rfl, by kernel_rfl, by kernel_rfl, by kernel_rfl, by kernel_rfl, by kernel_rfl, by kernel_rfl, by kernel_rfl, by kernel_rfl, by kernel_rfl, by kernel_rfl, by kernel_rfl, by kernel_rfl, by kernel_rfl, by kernel_rfl, by kernel_rfl, by kernel_rfl, by kernel_rfl, by kernel_rfl, by kernel_rfl, by kernel_rfl, by kernel_rfl, by kernel_rfl, by kernel_rfl, by kernel_rfl, by kernel_rfl, by kernel_rfl, by kernel_rfl, by kernel_rfl, by kernel_rfl, by kernel_rfl, by kernel_rfl, by kernel_rfl, by kernel_rfl, by kernel_rfl, by kernel_rfl, by kernel_rfl, by kernel_rfl, by kernel_rfl, by kernel_rfl, by kernel_rfl, by kernel_rfl, by kernel_rfl, by kernel_rfl, by kernel_rfl, by kernel_rfl, by kernel_rfl, by kernel_rfl, by kernel_rfl, by kernel_rfl, by kernel_rfl, by kernel_rfl, by kernel_rfl, by kernel_rfl, by kernel_rfl, by kernel_rfl, by kernel_rfl, by kernel_rfl, by kernel_rfl, by kernel_rfl⟩
theorem unRules : (Program.underlying Tryd.prog 2 = some (TypeDesc.int IntKind.i64)) ∧
    (Program.underlying Tryd.prog 3 = some (TypeDesc.int IntKind.i64)) ∧
    (Program.underlying Tryd.prog 4 = some TypeDesc.bool) ∧
    (Program.underlying Tryd.prog 5 = some (TypeDesc.int IntKind.u8)) ∧
    (Program.underlying Tryd.prog 6 = some (TypeDesc.int IntKind.u8)) ∧
    (Program.underlying Tryd.prog 9 = some TypeDesc.string) ∧
    (Program.underlying Tryd.prog 10 = some TypeDesc.string) ∧
    (Program.underlying Tryd.prog 11 = some TypeDesc.string) ∧
    (Program.underlying Tryd.prog 12 = some (TypeDesc.int IntKind.u64)) ∧
    (Program.underlying Tryd.prog 21 = some (TypeDesc.int IntKind.i32)) ∧
    (Program.underlying Tryd.prog 22 = some (TypeDesc.slice 53)) ∧
    (Program.underlying Tryd.prog 27 = some (TypeDesc.slice 37)) ∧
    (Program.underlying Tryd.prog 32 = some (TypeDesc.slice 31)) ∧
    (Program.underlying Tryd.prog 39 = some (TypeDesc.slice 46)) ∧
    (Program.underlying Tryd.prog 55 = some (TypeDesc.array 4 3)) ∧
    (Program.underlying Tryd.prog 56 = some (TypeDesc.array 4 55)) ∧
    (Program.underlying Tryd.prog 57 = some (TypeDesc.int IntKind.i64)) ∧
    (Program.underlying Tryd.prog 61 = some (TypeDesc.slice 3)) ∧
    (Program.underlying Tryd.prog 90 = some (TypeDesc.array 7 89)) ∧
    (Program.underlying Tryd.prog 101 = some (TypeDesc.int IntKind.u64)) ∧
    (Program.underlying Tryd.prog 114 = some (TypeDesc.int IntKind.i64)) ∧
    (Program.underlying Tryd.prog 122 = some (TypeDesc.int IntKind.u32)) ∧
    (Program.underlying Tryd.prog 124 = some (TypeDesc.int IntKind.u64)) ∧
    (Program.underlying Tryd.prog 135 = some (TypeDesc.int IntKind.u64)) ∧
    (Program.underlying Tryd.prog 141 = some (TypeDesc.slice 5)) ∧
    (Program.underlying Tryd.prog 145 = some (TypeDesc.array 3 53)) ∧
    (Program.underlying Tryd.prog 151 = some (TypeDesc.array 256 5)) ∧
    (Program.underlying Tryd.prog 154 = some (TypeDesc.array 16 153)) ∧
    (Program.underlying Tryd.prog 163 = some (TypeDesc.array 0 16)) ∧
    (Program.underlying Tryd.prog 166 = some (TypeDesc.int IntKind.u8)) ∧
    (Program.underlying Tryd.prog 167 = some (TypeDesc.int IntKind.u8)) ∧
    (Program.underlying Tryd.prog 170 = some (TypeDesc.int IntKind.i32)) ∧
    (Program.underlying Tryd.prog 171 = some (TypeDesc.int IntKind.i32)) :=
  ⟨by kernel_rfl, by kernel_rfl, by kernel_rfl, by kernel_rfl, by kernel_rfl, by kernel_rfl, by kernel_rfl, by kernel_rfl, by kernel_rfl, by kernel_rfl, by kernel_rfl, by kernel_rfl, by kernel_rfl, by kernel_rfl, by kernel_rfl, by kernel_rfl, by kernel_rfl, by kernel_rfl, by kernel_rfl, by kernel_rfl, by kernel_rfl, by kernel_rfl, by kernel_rfl, by kernel_rfl, by kernel_rfl, by kernel_rfl, by kernel_rfl, by kernel_rfl, by kernel_rfl, by kernel_rfl, by kernel_rfl, by kernel_rfl, by kernel_rfl⟩
end Go.Proofs
end
