/-
  Facts of the program's types.
-/
import Derived.Test.YtfhipjafkdembaaDoorRwE
import Derived.Test.YtfhipjafkdembaaDoorProg
import Derived.KernelRfl
set_option linter.unusedSimpArgs false
set_option linter.unusedVariables false
set_option linter.defProp false
set_option linter.unusedSectionVars false

-- FTi
section
namespace Go.Proofs
open Go Go.Rw
set_option maxRecDepth 100000
theorem tiRules : (tiOf Tryd.prog 0 = some { size := 1, bytes := 0, zero := some (Value.tuple #[]), kind := TK.other, hints := [0] }) ∧
    (tiOf Tryd.prog 1 = some { size := 1, bytes := 8, zero := some Value.nilFunc, kind := TK.other, hints := [0] }) ∧
    (tiOf Tryd.prog 2 = some { size := 1, bytes := 8, zero := some (Value.int IntKind.i64 0), kind := TK.int IntKind.i64, hints := [0] }) ∧
    (tiOf Tryd.prog 3 = some { size := 1, bytes := 8, zero := some (Value.int IntKind.i64 0), kind := TK.int IntKind.i64, hints := [0] }) ∧
    (tiOf Tryd.prog 4 = some { size := 1, bytes := 1, zero := some (Value.bool false), kind := TK.other, hints := [0] }) ∧
    (tiOf Tryd.prog 5 = some { size := 1, bytes := 1, zero := some (Value.int IntKind.u8 0), kind := TK.int IntKind.u8, hints := [0] }) ∧
    (tiOf Tryd.prog 6 = some { size := 1, bytes := 1, zero := some (Value.int IntKind.u8 0), kind := TK.int IntKind.u8, hints := [0] }) ∧
    (tiOf Tryd.prog 7 = some { size := 4, bytes := 24, zero := some (Value.agg #[Value.int IntKind.i64 0, Value.int IntKind.i64 0, Value.bool false, Value.int IntKind.u8 0]), kind := TK.st [(0, 1), (1, 1), (2, 1), (3, 1)], hints := [0, 0, 0, 0] }) ∧
    (tiOf Tryd.prog 8 = some { size := 4, bytes := 24, zero := some (Value.agg #[Value.int IntKind.i64 0, Value.int IntKind.i64 0, Value.bool false, Value.int IntKind.u8 0]), kind := TK.st [(0, 1), (1, 1), (2, 1), (3, 1)], hints := [0, 0, 0, 0] }) ∧
    (tiOf Tryd.prog 9 = some { size := 1, bytes := 16, zero := some (Value.string { data := #[] }), kind := TK.str, hints := [0] }) ∧
    (tiOf Tryd.prog 10 = some { size := 1, bytes := 16, zero := some (Value.string { data := #[] }), kind := TK.str, hints := [0] }) ∧
    (tiOf Tryd.prog 11 = some { size := 1, bytes := 16, zero := some (Value.string { data := #[] }), kind := TK.str, hints := [0] }) ∧
    (tiOf Tryd.prog 12 = some { size := 1, bytes := 8, zero := some (Value.int IntKind.u64 0), kind := TK.int IntKind.u64, hints := [0] }) ∧
    (tiOf Tryd.prog 13 = some { size := 2, bytes := 24, zero := some (Value.agg #[Value.string { data := #[] }, Value.int IntKind.u64 0]), kind := TK.st [(0, 1), (1, 1)], hints := [0, 0] }) ∧
    (tiOf Tryd.prog 14 = some { size := 2, bytes := 24, zero := some (Value.agg #[Value.string { data := #[] }, Value.int IntKind.u64 0]), kind := TK.st [(0, 1), (1, 1)], hints := [0, 0] }) ∧
    (tiOf Tryd.prog 15 = some { size := 1, bytes := 8, zero := some (Value.pointer none), kind := TK.other, hints := [0] }) ∧
    (tiOf Tryd.prog 16 = some { size := 1, bytes := 8, zero := some (Value.pointer none), kind := TK.other, hints := [0] }) ∧
    (tiOf Tryd.prog 17 = some { size := 1, bytes := 8, zero := some (Value.pointer none), kind := TK.other, hints := [0] }) ∧
    (tiOf Tryd.prog 18 = some { size := 1, bytes := 8, zero := some (Value.agg #[Value.pointer none]), kind := TK.st [(0, 1)], hints := [0] }) ∧
    (tiOf Tryd.prog 19 = some { size := 1, bytes := 8, zero := some (Value.agg #[Value.pointer none]), kind := TK.st [(0, 1)], hints := [0] }) ∧
    (tiOf Tryd.prog 20 = some { size := 1, bytes := 16, zero := some Value.nilIface, kind := TK.other, hints := [0] }) ∧
    (tiOf Tryd.prog 21 = some { size := 1, bytes := 4, zero := some (Value.int IntKind.i32 0), kind := TK.int IntKind.i32, hints := [0] }) ∧
    (tiOf Tryd.prog 22 = some { size := 1, bytes := 8, zero := some Value.nilFunc, kind := TK.other, hints := [0] }) ∧
    (tiOf Tryd.prog 23 = some { size := 1, bytes := 8, zero := some (Value.pointer none), kind := TK.other, hints := [0] }) ∧
    (tiOf Tryd.prog 24 = some { size := 1, bytes := 8, zero := some Value.nilFunc, kind := TK.other, hints := [0] }) ∧
    (tiOf Tryd.prog 25 = some { size := 1, bytes := 8, zero := some (Value.int IntKind.i64 0), kind := TK.int IntKind.i64, hints := [0] }) ∧
    (tiOf Tryd.prog 26 = some { size := 1, bytes := 8, zero := some Value.nilFunc, kind := TK.other, hints := [0] }) ∧
    (tiOf Tryd.prog 27 = some { size := 1, bytes := 8, zero := some Value.nilFunc, kind := TK.other, hints := [0] }) ∧
    (tiOf Tryd.prog 28 = some { size := 1, bytes := 24, zero := some (Value.slice none 0 0), kind := TK.slc 32, hints := [3] }) ∧
    (tiOf Tryd.prog 29 = some { size := 6, bytes := 72, zero := some (Value.agg #[Value.int IntKind.i64 0, Value.int IntKind.i64 0, Value.int IntKind.i64 0, Value.string { data := #[] }, Value.bool false, Value.slice none 0 0]), kind := TK.st [(0, 1), (1, 1), (2, 1), (3, 1), (4, 1), (5, 1)], hints := [0, 0, 0, 0, 0, 3] }) ∧
    (tiOf Tryd.prog 30 = some { size := 6, bytes := 72, zero := some (Value.agg #[Value.int IntKind.i64 0, Value.int IntKind.i64 0, Value.int IntKind.i64 0, Value.string { data := #[] }, Value.bool false, Value.slice none 0 0]), kind := TK.st [(0, 1), (1, 1), (2, 1), (3, 1), (4, 1), (5, 1)], hints := [0, 0, 0, 0, 0, 3] }) ∧
    (tiOf Tryd.prog 31 = some { size := 3, bytes := 32, zero := some (Value.agg #[Value.int IntKind.i64 0, Value.int IntKind.i64 0, Value.string { data := #[] }]), kind := TK.st [(0, 1), (1, 1), (2, 1)], hints := [0, 0, 0] }) ∧
    (tiOf Tryd.prog 32 = some { size := 3, bytes := 32, zero := some (Value.agg #[Value.int IntKind.i64 0, Value.int IntKind.i64 0, Value.string { data := #[] }]), kind := TK.st [(0, 1), (1, 1), (2, 1)], hints := [0, 0, 0] }) ∧
    (tiOf Tryd.prog 33 = some { size := 1, bytes := 24, zero := some (Value.slice none 0 0), kind := TK.slc 39, hints := [5] }) ∧
    (tiOf Tryd.prog 34 = some { size := 1, bytes := 8, zero := some Value.nilFunc, kind := TK.other, hints := [0] }) ∧
    (tiOf Tryd.prog 35 = some { size := 1, bytes := 8, zero := some Value.nilFunc, kind := TK.other, hints := [0] }) ∧
    (tiOf Tryd.prog 36 = some { size := 1, bytes := 0, zero := some (Value.tuple #[Value.pointer none, Value.int IntKind.i64 0]), kind := TK.other, hints := [0] }) ∧
    (tiOf Tryd.prog 37 = some { size := 1, bytes := 8, zero := some Value.nilFunc, kind := TK.other, hints := [0] }) ∧
    (tiOf Tryd.prog 38 = some { size := 5, bytes := 56, zero := some (Value.agg #[Value.int IntKind.i64 0, Value.int IntKind.i64 0, Value.string { data := #[] }, Value.bool false, Value.string { data := #[] }]), kind := TK.st [(0, 1), (1, 1), (2, 1), (3, 1), (4, 1)], hints := [0, 0, 0, 0, 0] }) ∧
    (tiOf Tryd.prog 39 = some { size := 5, bytes := 56, zero := some (Value.agg #[Value.int IntKind.i64 0, Value.int IntKind.i64 0, Value.string { data := #[] }, Value.bool false, Value.string { data := #[] }]), kind := TK.st [(0, 1), (1, 1), (2, 1), (3, 1), (4, 1)], hints := [0, 0, 0, 0, 0] }) ∧
    (tiOf Tryd.prog 40 = some { size := 1, bytes := 8, zero := some Value.nilFunc, kind := TK.other, hints := [0] }) ∧
    (tiOf Tryd.prog 41 = some { size := 1, bytes := 8, zero := some (Value.map none), kind := TK.other, hints := [0] }) ∧
    (tiOf Tryd.prog 42 = some { size := 1, bytes := 8, zero := some (Value.agg #[Value.map none]), kind := TK.st [(0, 1)], hints := [0] }) ∧
    (tiOf Tryd.prog 43 = some { size := 1, bytes := 8, zero := some (Value.agg #[Value.map none]), kind := TK.st [(0, 1)], hints := [0] }) ∧
    (tiOf Tryd.prog 44 = some { size := 1, bytes := 8, zero := some Value.nilFunc, kind := TK.other, hints := [0] }) ∧
    (tiOf Tryd.prog 45 = some { size := 1, bytes := 24, zero := some (Value.slice none 0 0), kind := TK.slc 5, hints := [1] }) ∧
    (tiOf Tryd.prog 46 = some { size := 1, bytes := 8, zero := some Value.nilFunc, kind := TK.other, hints := [0] }) ∧
    (tiOf Tryd.prog 47 = some { size := 1, bytes := 24, zero := some (Value.slice none 0 0), kind := TK.slc 3, hints := [1] }) ∧
    (tiOf Tryd.prog 48 = some { size := 1, bytes := 8, zero := some Value.nilFunc, kind := TK.other, hints := [0] }) ∧
    (tiOf Tryd.prog 49 = some { size := 1, bytes := 8, zero := some Value.nilFunc, kind := TK.other, hints := [0] }) ∧
    (tiOf Tryd.prog 50 = some { size := 1, bytes := 8, zero := some Value.nilFunc, kind := TK.other, hints := [0] }) ∧
    (tiOf Tryd.prog 51 = some { size := 1, bytes := 8, zero := some Value.nilFunc, kind := TK.other, hints := [0] }) ∧
    (tiOf Tryd.prog 52 = some { size := 1, bytes := 8, zero := some Value.nilFunc, kind := TK.other, hints := [0] }) ∧
    (tiOf Tryd.prog 53 = some { size := 1, bytes := 8, zero := some (Value.map none), kind := TK.other, hints := [0] }) ∧
    (tiOf Tryd.prog 54 = some { size := 1, bytes := 8, zero := some Value.nilFunc, kind := TK.other, hints := [0] }) ∧
    (tiOf Tryd.prog 55 = some { size := 1, bytes := 8, zero := some Value.nilFunc, kind := TK.other, hints := [0] }) ∧
    (tiOf Tryd.prog 56 = some { size := 1, bytes := 8, zero := some Value.nilFunc, kind := TK.other, hints := [0] }) ∧
    (tiOf Tryd.prog 57 = some { size := 1, bytes := 0, zero := some (Value.tuple #[Value.agg #[Value.int IntKind.i64 0, Value.int IntKind.i64 0, Value.string { data := #[] }, Value.bool false, Value.string { data := #[] }], Value.bool false]), kind := TK.other, hints := [0] }) ∧
    (tiOf Tryd.prog 58 = some { size := 1, bytes := 0, zero := some (Value.tuple #[Value.int IntKind.i64 0, Value.bool false]), kind := TK.other, hints := [0] }) ∧
    (tiOf Tryd.prog 59 = some { size := 1, bytes := 8, zero := some Value.nilFunc, kind := TK.other, hints := [0] }) ∧
    (tiOf Tryd.prog 60 = some { size := 1, bytes := 8, zero := some Value.nilFunc, kind := TK.other, hints := [0] }) ∧
    (tiOf Tryd.prog 61 = some { size := 1, bytes := 0, zero := some (Value.tuple #[Value.string { data := #[] }, Value.int IntKind.i64 0]), kind := TK.other, hints := [0] }) ∧
    (tiOf Tryd.prog 62 = some { size := 1, bytes := 8, zero := some Value.nilFunc, kind := TK.other, hints := [0] }) ∧
    (tiOf Tryd.prog 63 = some { size := 1, bytes := 0, zero := some (Value.tuple #[Value.int IntKind.i64 0, Value.int IntKind.i64 0]), kind := TK.other, hints := [0] }) ∧
    (tiOf Tryd.prog 64 = some { size := 1, bytes := 8, zero := some Value.nilFunc, kind := TK.other, hints := [0] }) ∧
    (tiOf Tryd.prog 65 = some { size := 1, bytes := 8, zero := some Value.nilFunc, kind := TK.other, hints := [0] }) ∧
    (tiOf Tryd.prog 66 = some { size := 1, bytes := 8, zero := some Value.nilFunc, kind := TK.other, hints := [0] }) ∧
    (tiOf Tryd.prog 67 = some { size := 1, bytes := 8, zero := some Value.nilFunc, kind := TK.other, hints := [0] }) ∧
    (tiOf Tryd.prog 68 = some { size := 1, bytes := 8, zero := some Value.nilFunc, kind := TK.other, hints := [0] }) ∧
    (tiOf Tryd.prog 69 = some { size := 1, bytes := 8, zero := some Value.nilFunc, kind := TK.other, hints := [0] }) ∧
    (tiOf Tryd.prog 70 = some { size := 1, bytes := 24, zero := some (Value.slice none 0 0), kind := TK.slc 74, hints := [5] }) ∧
    (tiOf Tryd.prog 71 = some { size := 1, bytes := 0, zero := some (Value.tuple #[Value.slice none 0 0, Value.int IntKind.i64 0]), kind := TK.other, hints := [0] }) ∧
    (tiOf Tryd.prog 72 = some { size := 1, bytes := 8, zero := some Value.nilFunc, kind := TK.other, hints := [0] }) ∧
    (tiOf Tryd.prog 73 = some { size := 5, bytes := 64, zero := some (Value.agg #[Value.int IntKind.i64 0, Value.int IntKind.i64 0, Value.string { data := #[] }, Value.string { data := #[] }, Value.string { data := #[] }]), kind := TK.st [(0, 3), (3, 1), (4, 1)], hints := [0, 0, 0, 0, 0] }) ∧
    (tiOf Tryd.prog 74 = some { size := 5, bytes := 64, zero := some (Value.agg #[Value.int IntKind.i64 0, Value.int IntKind.i64 0, Value.string { data := #[] }, Value.string { data := #[] }, Value.string { data := #[] }]), kind := TK.st [(0, 3), (3, 1), (4, 1)], hints := [0, 0, 0, 0, 0] }) ∧
    (tiOf Tryd.prog 75 = some { size := 1, bytes := 8, zero := some Value.nilFunc, kind := TK.other, hints := [0] }) ∧
    (tiOf Tryd.prog 76 = some { size := 1, bytes := 8, zero := some Value.nilFunc, kind := TK.other, hints := [0] }) ∧
    (tiOf Tryd.prog 77 = some { size := 1, bytes := 8, zero := some Value.nilFunc, kind := TK.other, hints := [0] }) ∧
    (tiOf Tryd.prog 78 = some { size := 1, bytes := 8, zero := some (Value.int IntKind.u64 0), kind := TK.int IntKind.u64, hints := [0] }) ∧
    (tiOf Tryd.prog 79 = some { size := 1, bytes := 8, zero := some Value.nilFunc, kind := TK.other, hints := [0] }) ∧
    (tiOf Tryd.prog 80 = some { size := 1, bytes := 8, zero := some Value.nilFunc, kind := TK.other, hints := [0] }) ∧
    (tiOf Tryd.prog 81 = some { size := 1, bytes := 24, zero := some (Value.slice none 0 0), kind := TK.slc 21, hints := [1] }) ∧
    (tiOf Tryd.prog 82 = some { size := 1, bytes := 8, zero := some Value.nilFunc, kind := TK.other, hints := [0] }) ∧
    (tiOf Tryd.prog 83 = some { size := 1, bytes := 8, zero := some Value.nilFunc, kind := TK.other, hints := [0] }) ∧
    (tiOf Tryd.prog 84 = some { size := 1, bytes := 8, zero := some Value.nilFunc, kind := TK.other, hints := [0] }) ∧
    (tiOf Tryd.prog 85 = some { size := 1, bytes := 8, zero := some Value.nilFunc, kind := TK.other, hints := [0] }) ∧
    (tiOf Tryd.prog 86 = some { size := 1, bytes := 8, zero := some (Value.int IntKind.i64 0), kind := TK.int IntKind.i64, hints := [0] }) ∧
    (tiOf Tryd.prog 87 = some { size := 1, bytes := 0, zero := some (Value.tuple #[Value.int IntKind.i64 0, Value.int IntKind.i64 0]), kind := TK.other, hints := [0] }) ∧
    (tiOf Tryd.prog 88 = some { size := 1, bytes := 8, zero := some Value.nilFunc, kind := TK.other, hints := [0] }) ∧
    (tiOf Tryd.prog 89 = some { size := 1, bytes := 8, zero := some Value.nilFunc, kind := TK.other, hints := [0] }) ∧
    (tiOf Tryd.prog 90 = some { size := 1, bytes := 8, zero := some Value.nilFunc, kind := TK.other, hints := [0] }) ∧
    (tiOf Tryd.prog 91 = some { size := 1, bytes := 8, zero := some Value.nilFunc, kind := TK.other, hints := [0] }) ∧
    (tiOf Tryd.prog 92 = some { size := 1, bytes := 8, zero := some Value.nilFunc, kind := TK.other, hints := [0] }) ∧
    (tiOf Tryd.prog 93 = some { size := 1, bytes := 4, zero := some (Value.int IntKind.u32 0), kind := TK.int IntKind.u32, hints := [0] }) ∧
    (tiOf Tryd.prog 94 = some { size := 1, bytes := 8, zero := some Value.nilFunc, kind := TK.other, hints := [0] }) ∧
    (tiOf Tryd.prog 95 = some { size := 1, bytes := 8, zero := some (Value.int IntKind.u64 0), kind := TK.int IntKind.u64, hints := [0] }) ∧
    (tiOf Tryd.prog 96 = some { size := 1, bytes := 8, zero := some Value.nilFunc, kind := TK.other, hints := [0] }) ∧
    (tiOf Tryd.prog 97 = some { size := 1, bytes := 8, zero := some Value.nilFunc, kind := TK.other, hints := [0] }) ∧
    (tiOf Tryd.prog 98 = some { size := 1, bytes := 8, zero := some Value.nilFunc, kind := TK.other, hints := [0] }) ∧
    (tiOf Tryd.prog 99 = some { size := 1, bytes := 8, zero := some Value.nilFunc, kind := TK.other, hints := [0] }) ∧
    (tiOf Tryd.prog 100 = some { size := 1, bytes := 8, zero := some Value.nilFunc, kind := TK.other, hints := [0] }) ∧
    (tiOf Tryd.prog 101 = some { size := 1, bytes := 8, zero := some Value.nilFunc, kind := TK.other, hints := [0] }) ∧
    (tiOf Tryd.prog 102 = some { size := 1, bytes := 8, zero := some Value.nilFunc, kind := TK.other, hints := [0] }) ∧
    (tiOf Tryd.prog 103 = some { size := 256, bytes := 256, zero := some (Value.agg #[Value.int IntKind.u8 0, Value.int IntKind.u8 0, Value.int IntKind.u8 0, Value.int IntKind.u8 0, Value.int IntKind.u8 0, Value.int IntKind.u8 0, Value.int IntKind.u8 0, Value.int IntKind.u8 0, Value.int IntKind.u8 0, Value.int IntKind.u8 0, Value.int IntKind.u8 0, Value.int IntKind.u8 0, Value.int IntKind.u8 0, Value.int IntKind.u8 0, Value.int IntKind.u8 0, Value.int IntKind.u8 0, Value.int IntKind.u8 0, Value.int IntKind.u8 0, Value.int IntKind.u8 0, Value.int IntKind.u8 0, Value.int IntKind.u8 0, Value.int IntKind.u8 0, Value.int IntKind.u8 0, Value.int IntKind.u8 0, Value.int IntKind.u8 0, Value.int IntKind.u8 0, Value.int IntKind.u8 0, Value.int IntKind.u8 0, Value.int IntKind.u8 0, Value.int IntKind.u8 0, Value.int IntKind.u8 0, Value.int IntKind.u8 0, Value.int IntKind.u8 0, Value.int IntKind.u8 0, Value.int IntKind.u8 0, Value.int IntKind.u8 0, Value.int IntKind.u8 0, Value.int IntKind.u8 0, Value.int IntKind.u8 0, Value.int IntKind.u8 0, Value.int IntKind.u8 0, Value.int IntKind.u8 0, Value.int IntKind.u8 0, Value.int IntKind.u8 0, Value.int IntKind.u8 0, Value.int IntKind.u8 0, Value.int IntKind.u8 0, Value.int IntKind.u8 0, Value.int IntKind.u8 0, Value.int IntKind.u8 0, Value.int IntKind.u8 0, Value.int IntKind.u8 0, Value.int IntKind.u8 0, Value.int IntKind.u8 0, Value.int IntKind.u8 0, Value.int IntKind.u8 0, Value.int IntKind.u8 0, Value.int IntKind.u8 0, Value.int IntKind.u8 0, Value.int IntKind.u8 0, Value.int IntKind.u8 0, Value.int IntKind.u8 0, Value.int IntKind.u8 0, Value.int IntKind.u8 0, Value.int IntKind.u8 0, Value.int IntKind.u8 0, Value.int IntKind.u8 0, Value.int IntKind.u8 0, Value.int IntKind.u8 0, Value.int IntKind.u8 0, Value.int IntKind.u8 0, Value.int IntKind.u8 0, Value.int IntKind.u8 0, Value.int IntKind.u8 0, Value.int IntKind.u8 0, Value.int IntKind.u8 0, Value.int IntKind.u8 0, Value.int IntKind.u8 0, Value.int IntKind.u8 0, Value.int IntKind.u8 0, Value.int IntKind.u8 0, Value.int IntKind.u8 0, Value.int IntKind.u8 0, Value.int IntKind.u8 0, Value.int IntKind.u8 0, Value.int IntKind.u8 0, Value.int IntKind.u8 0, Value.int IntKind.u8 0, Value.int IntKind.u8 0, Value.int IntKind.u8 0, Value.int IntKind.u8 0, Value.int IntKind.u8 0, Value.int IntKind.u8 0, Value.int IntKind.u8 0, Value.int IntKind.u8 0, Value.int IntKind.u8 0, Value.int IntKind.u8 0, Value.int IntKind.u8 0, Value.int IntKind.u8 0, Value.int IntKind.u8 0, Value.int IntKind.u8 0, Value.int IntKind.u8 0, Value.int IntKind.u8 0, Value.int IntKind.u8 0, Value.int IntKind.u8 0, Value.int IntKind.u8 0, Value.int IntKind.u8 0, Value.int IntKind.u8 0, Value.int IntKind.u8 0, Value.int IntKind.u8 0, Value.int IntKind.u8 0, Value.int IntKind.u8 0, Value.int IntKind.u8 0, Value.int IntKind.u8 0, Value.int IntKind.u8 0, Value.int IntKind.u8 0, Value.int IntKind.u8 0, Value.int IntKind.u8 0, Value.int IntKind.u8 0, Value.int IntKind.u8 0, Value.int IntKind.u8 0, Value.int IntKind.u8 0, Value.int IntKind.u8 0, Value.int IntKind.u8 0, Value.int IntKind.u8 0, Value.int IntKind.u8 0, Value.int IntKind.u8 0, Value.int IntKind.u8 0, Value.int IntKind.u8 0, Value.int IntKind.u8 0, Value.int IntKind.u8 0, Value.int IntKind.u8 0, Value.int IntKind.u8 0, Value.int IntKind.u8 0, Value.int IntKind.u8 0, Value.int IntKind.u8 0, Value.int IntKind.u8 0, Value.int IntKind.u8 0, Value.int IntKind.u8 0, Value.int IntKind.u8 0, Value.int IntKind.u8 0, Value.int IntKind.u8 0, Value.int IntKind.u8 0, Value.int IntKind.u8 0, Value.int IntKind.u8 0, Value.int IntKind.u8 0, Value.int IntKind.u8 0, Value.int IntKind.u8 0, Value.int IntKind.u8 0, Value.int IntKind.u8 0, Value.int IntKind.u8 0, Value.int IntKind.u8 0, Value.int IntKind.u8 0, Value.int IntKind.u8 0, Value.int IntKind.u8 0, Value.int IntKind.u8 0, Value.int IntKind.u8 0, Value.int IntKind.u8 0, Value.int IntKind.u8 0, Value.int IntKind.u8 0, Value.int IntKind.u8 0, Value.int IntKind.u8 0, Value.int IntKind.u8 0, Value.int IntKind.u8 0, Value.int IntKind.u8 0, Value.int IntKind.u8 0, Value.int IntKind.u8 0, Value.int IntKind.u8 0, Value.int IntKind.u8 0, Value.int IntKind.u8 0, Value.int IntKind.u8 0, Value.int IntKind.u8 0, Value.int IntKind.u8 0, Value.int IntKind.u8 0, Value.int IntKind.u8 0, Value.int IntKind.u8 0, Value.int IntKind.u8 0, Value.int IntKind.u8 0, Value.int IntKind.u8 0, Value.int IntKind.u8 0, Value.int IntKind.u8 0, Value.int IntKind.u8 0, Value.int IntKind.u8 0, Value.int IntKind.u8 0, Value.int IntKind.u8 0, Value.int IntKind.u8 0, Value.int IntKind.u8 0, Value.int IntKind.u8 0, Value.int IntKind.u8 0, Value.int IntKind.u8 0, Value.int IntKind.u8 0, Value.int IntKind.u8 0, Value.int IntKind.u8 0, Value.int IntKind.u8 0, Value.int IntKind.u8 0, Value.int IntKind.u8 0, Value.int IntKind.u8 0, Value.int IntKind.u8 0, Value.int IntKind.u8 0, Value.int IntKind.u8 0, Value.int IntKind.u8 0, Value.int IntKind.u8 0, Value.int IntKind.u8 0, Value.int IntKind.u8 0, Value.int IntKind.u8 0, Value.int IntKind.u8 0, Value.int IntKind.u8 0, Value.int IntKind.u8 0, Value.int IntKind.u8 0, Value.int IntKind.u8 0, Value.int IntKind.u8 0, Value.int IntKind.u8 0, Value.int IntKind.u8 0, Value.int IntKind.u8 0, Value.int IntKind.u8 0, Value.int IntKind.u8 0, Value.int IntKind.u8 0, Value.int IntKind.u8 0, Value.int IntKind.u8 0, Value.int IntKind.u8 0, Value.int IntKind.u8 0, Value.int IntKind.u8 0, Value.int IntKind.u8 0, Value.int IntKind.u8 0, Value.int IntKind.u8 0, Value.int IntKind.u8 0, Value.int IntKind.u8 0, Value.int IntKind.u8 0, Value.int IntKind.u8 0, Value.int IntKind.u8 0, Value.int IntKind.u8 0, Value.int IntKind.u8 0, Value.int IntKind.u8 0, Value.int IntKind.u8 0, Value.int IntKind.u8 0, Value.int IntKind.u8 0, Value.int IntKind.u8 0, Value.int IntKind.u8 0, Value.int IntKind.u8 0, Value.int IntKind.u8 0, Value.int IntKind.u8 0, Value.int IntKind.u8 0, Value.int IntKind.u8 0, Value.int IntKind.u8 0, Value.int IntKind.u8 0, Value.int IntKind.u8 0, Value.int IntKind.u8 0, Value.int IntKind.u8 0, Value.int IntKind.u8 0, Value.int IntKind.u8 0, Value.int IntKind.u8 0, Value.int IntKind.u8 0, Value.int IntKind.u8 0, Value.int IntKind.u8 0, Value.int IntKind.u8 0, Value.int IntKind.u8 0]), kind := TK.arr 256 5, hints := [0, 0, 0, 0, 0, 0, 0, 0, 0, 0, 0, 0, 0, 0, 0, 0, 0, 0, 0, 0, 0, 0, 0, 0, 0, 0, 0, 0, 0, 0, 0, 0, 0, 0, 0, 0, 0, 0, 0, 0, 0, 0, 0, 0, 0, 0, 0, 0, 0, 0, 0, 0, 0, 0, 0, 0, 0, 0, 0, 0, 0, 0, 0, 0, 0, 0, 0, 0, 0, 0, 0, 0, 0, 0, 0, 0, 0, 0, 0, 0, 0, 0, 0, 0, 0, 0, 0, 0, 0, 0, 0, 0, 0, 0, 0, 0, 0, 0, 0, 0, 0, 0, 0, 0, 0, 0, 0, 0, 0, 0, 0, 0, 0, 0, 0, 0, 0, 0, 0, 0, 0, 0, 0, 0, 0, 0, 0, 0, 0, 0, 0, 0, 0, 0, 0, 0, 0, 0, 0, 0, 0, 0, 0, 0, 0, 0, 0, 0, 0, 0, 0, 0, 0, 0, 0, 0, 0, 0, 0, 0, 0, 0, 0, 0, 0, 0, 0, 0, 0, 0, 0, 0, 0, 0, 0, 0, 0, 0, 0, 0, 0, 0, 0, 0, 0, 0, 0, 0, 0, 0, 0, 0, 0, 0, 0, 0, 0, 0, 0, 0, 0, 0, 0, 0, 0, 0, 0, 0, 0, 0, 0, 0, 0, 0, 0, 0, 0, 0, 0, 0, 0, 0, 0, 0, 0, 0, 0, 0, 0, 0, 0, 0, 0, 0, 0, 0, 0, 0, 0, 0, 0, 0, 0, 0, 0, 0, 0, 0, 0, 0, 0, 0, 0, 0, 0, 0] }) ∧
    (tiOf Tryd.prog 104 = some { size := 2, bytes := 2, zero := some (Value.agg #[Value.int IntKind.u8 0, Value.int IntKind.u8 0]), kind := TK.st [(0, 1), (1, 1)], hints := [0, 0] }) ∧
    (tiOf Tryd.prog 105 = some { size := 2, bytes := 2, zero := some (Value.agg #[Value.int IntKind.u8 0, Value.int IntKind.u8 0]), kind := TK.st [(0, 1), (1, 1)], hints := [0, 0] }) ∧
    (tiOf Tryd.prog 106 = some { size := 32, bytes := 32, zero := some (Value.agg #[Value.int IntKind.u8 0, Value.int IntKind.u8 0, Value.int IntKind.u8 0, Value.int IntKind.u8 0, Value.int IntKind.u8 0, Value.int IntKind.u8 0, Value.int IntKind.u8 0, Value.int IntKind.u8 0, Value.int IntKind.u8 0, Value.int IntKind.u8 0, Value.int IntKind.u8 0, Value.int IntKind.u8 0, Value.int IntKind.u8 0, Value.int IntKind.u8 0, Value.int IntKind.u8 0, Value.int IntKind.u8 0, Value.int IntKind.u8 0, Value.int IntKind.u8 0, Value.int IntKind.u8 0, Value.int IntKind.u8 0, Value.int IntKind.u8 0, Value.int IntKind.u8 0, Value.int IntKind.u8 0, Value.int IntKind.u8 0, Value.int IntKind.u8 0, Value.int IntKind.u8 0, Value.int IntKind.u8 0, Value.int IntKind.u8 0, Value.int IntKind.u8 0, Value.int IntKind.u8 0, Value.int IntKind.u8 0, Value.int IntKind.u8 0]), kind := TK.arr 16 105, hints := [0, 0, 0, 0, 0, 0, 0, 0, 0, 0, 0, 0, 0, 0, 0, 0, 0, 0, 0, 0, 0, 0, 0, 0, 0, 0, 0, 0, 0, 0, 0, 0] }) ∧
    (tiOf Tryd.prog 107 = some { size := 1, bytes := 8, zero := some (Value.int IntKind.u64 0), kind := TK.int IntKind.u64, hints := [0] }) ∧
    (tiOf Tryd.prog 108 = some { size := 1, bytes := 8, zero := some Value.nilFunc, kind := TK.other, hints := [0] }) ∧
    (tiOf Tryd.prog 109 = some { size := 1, bytes := 8, zero := some Value.nilFunc, kind := TK.other, hints := [0] }) ∧
    (tiOf Tryd.prog 110 = some { size := 1, bytes := 8, zero := some Value.nilFunc, kind := TK.other, hints := [0] }) ∧
    (tiOf Tryd.prog 111 = some { size := 1, bytes := 8, zero := some (Value.pointer none), kind := TK.other, hints := [0] }) ∧
    (tiOf Tryd.prog 112 = some { size := 1, bytes := 8, zero := some Value.nilFunc, kind := TK.other, hints := [0] }) ∧
    (tiOf Tryd.prog 113 = some { size := 1, bytes := 8, zero := some Value.nilFunc, kind := TK.other, hints := [0] }) ∧
    (tiOf Tryd.prog 114 = some { size := 1, bytes := 8, zero := some Value.nilFunc, kind := TK.other, hints := [0] }) ∧
    (tiOf Tryd.prog 115 = some { size := 1, bytes := 8, zero := some Value.nilFunc, kind := TK.other, hints := [0] }) ∧
    (tiOf Tryd.prog 116 = some { size := 1, bytes := 8, zero := some Value.nilFunc, kind := TK.other, hints := [0] }) ∧
    (tiOf Tryd.prog 117 = some { size := 1, bytes := 8, zero := some (Value.pointer none), kind := TK.other, hints := [0] }) ∧
    (tiOf Tryd.prog 118 = some { size := 1, bytes := 0, zero := some (Value.tuple #[Value.int IntKind.i64 0, Value.int IntKind.i64 0]), kind := TK.other, hints := [0] }) ∧
    (tiOf Tryd.prog 119 = some { size := 1, bytes := 8, zero := some Value.nilFunc, kind := TK.other, hints := [0] }) ∧
    (tiOf Tryd.prog 120 = some { size := 1, bytes := 8, zero := some Value.nilFunc, kind := TK.other, hints := [0] }) ∧
    (tiOf Tryd.prog 121 = some { size := 1, bytes := 8, zero := some Value.nilFunc, kind := TK.other, hints := [0] }) ∧
    (tiOf Tryd.prog 122 = some { size := 1, bytes := 8, zero := some Value.nilFunc, kind := TK.other, hints := [0] }) ∧
    (tiOf Tryd.prog 123 = some { size := 1, bytes := 0, zero := some (Value.tuple #[Value.int IntKind.u32 0, Value.int IntKind.u32 0]), kind := TK.other, hints := [0] }) ∧
    (tiOf Tryd.prog 124 = some { size := 1, bytes := 8, zero := some Value.nilFunc, kind := TK.other, hints := [0] }) ∧
    (tiOf Tryd.prog 125 = some { size := 1, bytes := 8, zero := some Value.nilFunc, kind := TK.other, hints := [0] }) ∧
    (tiOf Tryd.prog 126 = some { size := 4, bytes := 40, zero := some (Value.agg #[Value.pointer none, Value.pointer none, Value.pointer none, Value.string { data := #[] }]), kind := TK.st [(0, 1), (1, 1), (2, 1), (3, 1)], hints := [0, 0, 0, 0] }) ∧
    (tiOf Tryd.prog 127 = some { size := 4, bytes := 40, zero := some (Value.agg #[Value.pointer none, Value.pointer none, Value.pointer none, Value.string { data := #[] }]), kind := TK.st [(0, 1), (1, 1), (2, 1), (3, 1)], hints := [0, 0, 0, 0] }) ∧
    (tiOf Tryd.prog 128 = some { size := 0, bytes := 0, zero := some (Value.agg #[]), kind := TK.arr 0 16, hints := [] }) ∧
    (tiOf Tryd.prog 129 = some { size := 0, bytes := 0, zero := some (Value.agg #[]), kind := TK.st [(0, 0)], hints := [] }) ∧
    (tiOf Tryd.prog 130 = some { size := 0, bytes := 0, zero := some (Value.agg #[]), kind := TK.st [(0, 0)], hints := [] }) ∧
    (tiOf Tryd.prog 131 = some { size := 1, bytes := 1, zero := some (Value.int IntKind.u8 0), kind := TK.int IntKind.u8, hints := [0] }) ∧
    (tiOf Tryd.prog 132 = some { size := 1, bytes := 1, zero := some (Value.int IntKind.u8 0), kind := TK.int IntKind.u8, hints := [0] }) ∧
    (tiOf Tryd.prog 133 = some { size := 1, bytes := 8, zero := some Value.nilFunc, kind := TK.other, hints := [0] }) ∧
    (tiOf Tryd.prog 134 = some { size := 1, bytes := 8, zero := some (Value.pointer none), kind := TK.other, hints := [0] }) ∧
    (tiOf Tryd.prog 135 = some { size := 1, bytes := 4, zero := some (Value.int IntKind.i32 0), kind := TK.int IntKind.i32, hints := [0] }) ∧
    (tiOf Tryd.prog 136 = some { size := 1, bytes := 4, zero := some (Value.int IntKind.i32 0), kind := TK.int IntKind.i32, hints := [0] }) ∧
    (tiOf Tryd.prog 137 = some { size := 11, bytes := 48, zero := some (Value.agg #[Value.int IntKind.u64 0, Value.int IntKind.u64 0, Value.int IntKind.u32 0, Value.int IntKind.u8 0, Value.int IntKind.u8 0, Value.int IntKind.u8 0, Value.int IntKind.u8 0, Value.nilFunc, Value.pointer none, Value.int IntKind.i32 0, Value.int IntKind.i32 0]), kind := TK.st [(0, 1), (1, 1), (2, 1), (3, 1), (4, 1), (5, 1), (6, 1), (7, 1), (8, 1), (9, 1), (10, 1)], hints := [0, 0, 0, 0, 0, 0, 0, 0, 0, 0, 0] }) ∧
    (tiOf Tryd.prog 138 = some { size := 11, bytes := 48, zero := some (Value.agg #[Value.int IntKind.u64 0, Value.int IntKind.u64 0, Value.int IntKind.u32 0, Value.int IntKind.u8 0, Value.int IntKind.u8 0, Value.int IntKind.u8 0, Value.int IntKind.u8 0, Value.nilFunc, Value.pointer none, Value.int IntKind.i32 0, Value.int IntKind.i32 0]), kind := TK.st [(0, 1), (1, 1), (2, 1), (3, 1), (4, 1), (5, 1), (6, 1), (7, 1), (8, 1), (9, 1), (10, 1)], hints := [0, 0, 0, 0, 0, 0, 0, 0, 0, 0, 0] }) ∧
    (tiOf Tryd.prog 139 = some { size := 1, bytes := 8, zero := some (Value.pointer none), kind := TK.other, hints := [0] }) :=
  ⟨by kernel_rfl, by kernel_rfl, by kernel_rfl, by kernel_rfl, by kernel_rfl, by kernel_rfl, by kernel_rfl, by kernel_rfl, by kernel_rfl, by kernel_rfl, by kernel_rfl, by kernel_rfl, by kernel_rfl, by kernel_rfl, by kernel_rfl, by kernel_rfl, by kernel_rfl, by kernel_rfl, by kernel_rfl, by kernel_rfl, by kernel_rfl, by kernel_rfl, by kernel_rfl, by kernel_rfl, by kernel_rfl, by kernel_rfl, by kernel_rfl, by kernel_rfl, by kernel_rfl, by kernel_rfl, by kernel_rfl, by kernel_rfl, by kernel_rfl, by kernel_rfl, by kernel_rfl, by kernel_rfl, by kernel_rfl, by kernel_rfl, by kernel_rfl, by kernel_rfl, by kernel_rfl, by kernel_rfl, by kernel_rfl, by kernel_rfl, by kernel_rfl, by kernel_rfl, by kernel_rfl, by kernel_rfl, by kernel_rfl, by kernel_rfl, by kernel_rfl, by kernel_rfl, by kernel_rfl, by kernel_rfl, by kernel_rfl, by kernel_rfl, by kernel_rfl, by kernel_rfl, by kernel_rfl, by kernel_rfl, by kernel_rfl, by kernel_rfl, by kernel_rfl, by kernel_rfl, by kernel_rfl, by kernel_rfl, by kernel_rfl, by kernel_rfl, by kernel_rfl, by kernel_rfl, by kernel_rfl, by kernel_rfl, by kernel_rfl, by kernel_rfl, by kernel_rfl, by kernel_rfl, by kernel_rfl, by kernel_rfl, by kernel_rfl, by kernel_rfl, by kernel_rfl, by kernel_rfl, by kernel_rfl, by kernel_rfl, by kernel_rfl, by kernel_rfl, by kernel_rfl, by kernel_rfl, by kernel_rfl, by kernel_rfl, by kernel_rfl, by kernel_rfl, by kernel_rfl, by kernel_rfl, by kernel_rfl, by kernel_rfl, by kernel_rfl, by kernel_rfl, by kernel_rfl, by kernel_rfl, by kernel_rfl, by kernel_rfl, by kernel_rfl, by kernel_rfl, by kernel_rfl, by kernel_rfl, by kernel_rfl, by kernel_rfl, by kernel_rfl, by kernel_rfl, by kernel_rfl, by kernel_rfl, by kernel_rfl, by kernel_rfl, by kernel_rfl, by kernel_rfl, by kernel_rfl, by kernel_rfl, by kernel_rfl, by kernel_rfl, by kernel_rfl, by kernel_rfl, by kernel_rfl, by kernel_rfl, by kernel_rfl, by kernel_rfl, by kernel_rfl, by kernel_rfl, by kernel_rfl, by kernel_rfl, by kernel_rfl, by kernel_rfl, by kernel_rfl, by kernel_rfl, by kernel_rfl, by kernel_rfl, by kernel_rfl, by kernel_rfl, by kernel_rfl, by kernel_rfl⟩
theorem unRules : (Program.underlying Tryd.prog 2 = some (TypeDesc.int IntKind.i64)) ∧
    (Program.underlying Tryd.prog 3 = some (TypeDesc.int IntKind.i64)) ∧
    (Program.underlying Tryd.prog 4 = some TypeDesc.bool) ∧
    (Program.underlying Tryd.prog 5 = some (TypeDesc.int IntKind.u8)) ∧
    (Program.underlying Tryd.prog 6 = some (TypeDesc.int IntKind.u8)) ∧
    (Program.underlying Tryd.prog 9 = some TypeDesc.string) ∧
    (Program.underlying Tryd.prog 10 = some TypeDesc.string) ∧
    (Program.underlying Tryd.prog 11 = some TypeDesc.string) ∧
    (Program.underlying Tryd.prog 12 = some (TypeDesc.int IntKind.u64)) ∧
    (Program.underlying Tryd.prog 15 = some (TypeDesc.pointer 127)) ∧
    (Program.underlying Tryd.prog 16 = some (TypeDesc.pointer 130)) ∧
    (Program.underlying Tryd.prog 17 = some (TypeDesc.pointer 138)) ∧
    (Program.underlying Tryd.prog 21 = some (TypeDesc.int IntKind.i32)) ∧
    (Program.underlying Tryd.prog 23 = some (TypeDesc.pointer 43)) ∧
    (Program.underlying Tryd.prog 25 = some (TypeDesc.int IntKind.i64)) ∧
    (Program.underlying Tryd.prog 28 = some (TypeDesc.slice 32)) ∧
    (Program.underlying Tryd.prog 33 = some (TypeDesc.slice 39)) ∧
    (Program.underlying Tryd.prog 41 = some (TypeDesc.map 3 39)) ∧
    (keyT Tryd.prog 41 = some (TypeDesc.int IntKind.i64)) ∧
    (elemT Tryd.prog 41 = some 39) ∧
    (Program.underlying Tryd.prog 45 = some (TypeDesc.slice 5)) ∧
    (Program.underlying Tryd.prog 47 = some (TypeDesc.slice 3)) ∧
    (Program.underlying Tryd.prog 53 = some (TypeDesc.map 39 3)) ∧
    (keyT Tryd.prog 53 = none) ∧
    (elemT Tryd.prog 53 = some 3) ∧
    (Program.underlying Tryd.prog 70 = some (TypeDesc.slice 74)) ∧
    (Program.underlying Tryd.prog 78 = some (TypeDesc.int IntKind.u64)) ∧
    (Program.underlying Tryd.prog 81 = some (TypeDesc.slice 21)) ∧
    (Program.underlying Tryd.prog 86 = some (TypeDesc.int IntKind.i64)) ∧
    (Program.underlying Tryd.prog 93 = some (TypeDesc.int IntKind.u32)) ∧
    (Program.underlying Tryd.prog 95 = some (TypeDesc.int IntKind.u64)) ∧
    (Program.underlying Tryd.prog 103 = some (TypeDesc.array 256 5)) ∧
    (Program.underlying Tryd.prog 106 = some (TypeDesc.array 16 105)) ∧
    (Program.underlying Tryd.prog 107 = some (TypeDesc.int IntKind.u64)) ∧
    (Program.underlying Tryd.prog 111 = some (TypeDesc.pointer 3)) ∧
    (Program.underlying Tryd.prog 117 = some (TypeDesc.pointer 107)) ∧
    (Program.underlying Tryd.prog 128 = some (TypeDesc.array 0 16)) ∧
    (Program.underlying Tryd.prog 131 = some (TypeDesc.int IntKind.u8)) ∧
    (Program.underlying Tryd.prog 132 = some (TypeDesc.int IntKind.u8)) ∧
    (Program.underlying Tryd.prog 134 = some (TypeDesc.pointer 5)) ∧
    (Program.underlying Tryd.prog 135 = some (TypeDesc.int IntKind.i32)) ∧
    (Program.underlying Tryd.prog 136 = some (TypeDesc.int IntKind.i32)) :=
  ⟨by kernel_rfl, by kernel_rfl, by kernel_rfl, by kernel_rfl, by kernel_rfl, by kernel_rfl, by kernel_rfl, by kernel_rfl, by kernel_rfl, by kernel_rfl, by kernel_rfl, by kernel_rfl, by kernel_rfl, by kernel_rfl, by kernel_rfl, by kernel_rfl, by kernel_rfl, by kernel_rfl, by kernel_rfl, by kernel_rfl, by kernel_rfl, by kernel_rfl, by kernel_rfl, by kernel_rfl, by kernel_rfl, by kernel_rfl, by kernel_rfl, by kernel_rfl, by kernel_rfl, by kernel_rfl, by kernel_rfl, by kernel_rfl, by kernel_rfl, by kernel_rfl, by kernel_rfl, by kernel_rfl, by kernel_rfl, by kernel_rfl, by kernel_rfl, by kernel_rfl, by kernel_rfl, by kernel_rfl⟩
end Go.Proofs
end
