/-
 Facts of the program's types.
-/
import Derived.Test.YtnpofobcbfbfnaaGreatDoorRwE
import Derived.Test.YtnpofobcbfbfnaaGreatDoorProg
import Derived.KernelRfl
set_option linter.unusedSimpArgs false
set_option linter.unusedVariables false
set_option linter.defProp false
set_option linter.unusedSectionVars false

set_option maxRecDepth 100000
-- HTi
namespace Go.Proofs
open Go Go.Rw
theorem tiRules:(tiOf Tryz.prog 0=some { size:=1,bytes:=0,zero:=some (Value.tuple #[]),kind:=TK.other,hints:=[0] }) ∧
    (tiOf Tryz.prog 1=some { size:=1,bytes:=8,zero:=some Value.nilFunc,kind:=TK.other,hints:=[0] }) ∧
    (tiOf Tryz.prog 2=some { size:=1,bytes:=8,zero:=some (Value.int IntKind.i64 0),kind:=TK.int IntKind.i64,hints:=[0] }) ∧
    (tiOf Tryz.prog 3=some { size:=1,bytes:=8,zero:=some (Value.int IntKind.i64 0),kind:=TK.int IntKind.i64,hints:=[0] }) ∧
    (tiOf Tryz.prog 4=some { size:=1,bytes:=1,zero:=some (Value.bool false),kind:=TK.other,hints:=[0] }) ∧
    (tiOf Tryz.prog 5=some { size:=1,bytes:=1,zero:=some (Value.int IntKind.u8 0),kind:=TK.int IntKind.u8,hints:=[0] }) ∧
    (tiOf Tryz.prog 6=some { size:=1,bytes:=1,zero:=some (Value.int IntKind.u8 0),kind:=TK.int IntKind.u8,hints:=[0] }) ∧
    (tiOf Tryz.prog 7=some { size:=4,bytes:=24,zero:=some (Value.agg #[Value.int IntKind.i64 0,Value.int IntKind.i64 0,Value.bool false,Value.int IntKind.u8 0]),kind:=TK.st [(0,1),(1,1),(2,1),(3,1)],hints:=[0,0,0,0] }) ∧
    (tiOf Tryz.prog 8=some { size:=4,bytes:=24,zero:=some (Value.agg #[Value.int IntKind.i64 0,Value.int IntKind.i64 0,Value.bool false,Value.int IntKind.u8 0]),kind:=TK.st [(0,1),(1,1),(2,1),(3,1)],hints:=[0,0,0,0] }) ∧
    (tiOf Tryz.prog 9=some { size:=1,bytes:=16,zero:=some (Value.string { data:=#[] }),kind:=TK.str,hints:=[0] }) ∧
    (tiOf Tryz.prog 10=some { size:=1,bytes:=16,zero:=some (Value.string { data:=#[] }),kind:=TK.str,hints:=[0] }) ∧
    (tiOf Tryz.prog 11=some { size:=1,bytes:=16,zero:=some (Value.string { data:=#[] }),kind:=TK.str,hints:=[0] }) ∧
    (tiOf Tryz.prog 12=some { size:=1,bytes:=8,zero:=some (Value.int IntKind.u64 0),kind:=TK.int IntKind.u64,hints:=[0] }) ∧
    (tiOf Tryz.prog 13=some { size:=2,bytes:=24,zero:=some (Value.agg #[Value.string { data:=#[] },Value.int IntKind.u64 0]),kind:=TK.st [(0,1),(1,1)],hints:=[0,0] }) ∧
    (tiOf Tryz.prog 14=some { size:=2,bytes:=24,zero:=some (Value.agg #[Value.string { data:=#[] },Value.int IntKind.u64 0]),kind:=TK.st [(0,1),(1,1)],hints:=[0,0] }) ∧
    (tiOf Tryz.prog 15=some { size:=1,bytes:=8,zero:=some (Value.pointer none),kind:=TK.other,hints:=[0] }) ∧
    (tiOf Tryz.prog 16=some { size:=1,bytes:=8,zero:=some (Value.pointer none),kind:=TK.other,hints:=[0] }) ∧
    (tiOf Tryz.prog 17=some { size:=1,bytes:=8,zero:=some (Value.pointer none),kind:=TK.other,hints:=[0] }) ∧
    (tiOf Tryz.prog 18=some { size:=1,bytes:=8,zero:=some (Value.agg #[Value.pointer none]),kind:=TK.st [(0,1)],hints:=[0] }) ∧
    (tiOf Tryz.prog 19=some { size:=1,bytes:=8,zero:=some (Value.agg #[Value.pointer none]),kind:=TK.st [(0,1)],hints:=[0] }) ∧
    (tiOf Tryz.prog 20=some { size:=1,bytes:=16,zero:=some Value.nilIface,kind:=TK.other,hints:=[0] }) ∧
    (tiOf Tryz.prog 21=some { size:=1,bytes:=4,zero:=some (Value.int IntKind.i32 0),kind:=TK.int IntKind.i32,hints:=[0] }) ∧
    (tiOf Tryz.prog 22=some { size:=1,bytes:=8,zero:=some Value.nilFunc,kind:=TK.other,hints:=[0] }) ∧
    (tiOf Tryz.prog 23=some { size:=1,bytes:=8,zero:=some (Value.pointer none),kind:=TK.other,hints:=[0] }) ∧
    (tiOf Tryz.prog 24=some { size:=1,bytes:=8,zero:=some (Value.int IntKind.i64 0),kind:=TK.int IntKind.i64,hints:=[0] }) ∧
    (tiOf Tryz.prog 25=some { size:=1,bytes:=0,zero:=some (Value.tuple #[Value.pointer none,Value.int IntKind.i64 0]),kind:=TK.other,hints:=[0] }) ∧
    (tiOf Tryz.prog 26=some { size:=1,bytes:=8,zero:=some Value.nilFunc,kind:=TK.other,hints:=[0] }) ∧
    (tiOf Tryz.prog 27=some { size:=1,bytes:=8,zero:=some (Value.pointer none),kind:=TK.other,hints:=[0] }) ∧
    (tiOf Tryz.prog 28=some { size:=1,bytes:=8,zero:=some Value.nilFunc,kind:=TK.other,hints:=[0] }) ∧
    (tiOf Tryz.prog 29=some { size:=1,bytes:=8,zero:=some Value.nilFunc,kind:=TK.other,hints:=[0] }) ∧
    (tiOf Tryz.prog 30=some { size:=1,bytes:=24,zero:=some (Value.slice none 0 0),kind:=TK.slc 55,hints:=[6] }) ∧
    (tiOf Tryz.prog 31=some { size:=4,bytes:=48,zero:=some (Value.agg #[Value.int IntKind.i64 0,Value.int IntKind.i64 0,Value.int IntKind.i64 0,Value.slice none 0 0]),kind:=TK.st [(0,1),(1,1),(2,1),(3,1)],hints:=[0,0,0,6] }) ∧
    (tiOf Tryz.prog 32=some { size:=4,bytes:=48,zero:=some (Value.agg #[Value.int IntKind.i64 0,Value.int IntKind.i64 0,Value.int IntKind.i64 0,Value.slice none 0 0]),kind:=TK.st [(0,1),(1,1),(2,1),(3,1)],hints:=[0,0,0,6] }) ∧
    (tiOf Tryz.prog 33=some { size:=1,bytes:=8,zero:=some Value.nilFunc,kind:=TK.other,hints:=[0] }) ∧
    (tiOf Tryz.prog 34=some { size:=1,bytes:=24,zero:=some (Value.slice none 0 0),kind:=TK.slc 32,hints:=[4] }) ∧
    (tiOf Tryz.prog 35=some { size:=1,bytes:=0,zero:=some (Value.tuple #[Value.slice none 0 0,Value.int IntKind.i64 0]),kind:=TK.other,hints:=[0] }) ∧
    (tiOf Tryz.prog 36=some { size:=1,bytes:=8,zero:=some Value.nilFunc,kind:=TK.other,hints:=[0] }) ∧
    (tiOf Tryz.prog 37=some { size:=1,bytes:=8,zero:=some Value.nilFunc,kind:=TK.other,hints:=[0] }) ∧
    (tiOf Tryz.prog 38=some { size:=1,bytes:=8,zero:=some Value.nilFunc,kind:=TK.other,hints:=[0] }) ∧
    (tiOf Tryz.prog 39=some { size:=1,bytes:=24,zero:=some (Value.slice none 0 0),kind:=TK.slc 30,hints:=[1] }) ∧
    (tiOf Tryz.prog 40=some { size:=1,bytes:=24,zero:=some (Value.slice none 0 0),kind:=TK.slc 42,hints:=[1] }) ∧
    (tiOf Tryz.prog 41=some { size:=1,bytes:=8,zero:=some Value.nilFunc,kind:=TK.other,hints:=[0] }) ∧
    (tiOf Tryz.prog 42=some { size:=1,bytes:=24,zero:=some (Value.slice none 0 0),kind:=TK.slc 82,hints:=[5] }) ∧
    (tiOf Tryz.prog 43=some { size:=1,bytes:=8,zero:=some Value.nilFunc,kind:=TK.other,hints:=[0] }) ∧
    (tiOf Tryz.prog 44=some { size:=1,bytes:=0,zero:=some (Value.tuple #[Value.slice none 0 0,Value.int IntKind.i64 0,Value.int IntKind.i64 0]),kind:=TK.other,hints:=[0] }) ∧
    (tiOf Tryz.prog 45=some { size:=1,bytes:=8,zero:=some Value.nilFunc,kind:=TK.other,hints:=[0] }) ∧
    (tiOf Tryz.prog 46=some { size:=1,bytes:=8,zero:=some Value.nilFunc,kind:=TK.other,hints:=[0] }) ∧
    (tiOf Tryz.prog 47=some { size:=1,bytes:=8,zero:=some Value.nilFunc,kind:=TK.other,hints:=[0] }) ∧
    (tiOf Tryz.prog 48=some { size:=1,bytes:=8,zero:=some Value.nilFunc,kind:=TK.other,hints:=[0] }) ∧
    (tiOf Tryz.prog 49=some { size:=1,bytes:=8,zero:=some (Value.pointer none),kind:=TK.other,hints:=[0] }) ∧
    (tiOf Tryz.prog 50=some { size:=4,bytes:=64,zero:=some (Value.agg #[Value.int IntKind.i64 0,Value.int IntKind.i64 0,Value.slice none 0 0,Value.slice none 0 0]),kind:=TK.st [(0,1),(1,1),(2,1),(3,1)],hints:=[0,0,5,4] }) ∧
    (tiOf Tryz.prog 51=some { size:=4,bytes:=64,zero:=some (Value.agg #[Value.int IntKind.i64 0,Value.int IntKind.i64 0,Value.slice none 0 0,Value.slice none 0 0]),kind:=TK.st [(0,1),(1,1),(2,1),(3,1)],hints:=[0,0,5,4] }) ∧
    (tiOf Tryz.prog 52=some { size:=1,bytes:=8,zero:=some Value.nilFunc,kind:=TK.other,hints:=[0] }) ∧
    (tiOf Tryz.prog 53=some { size:=1,bytes:=24,zero:=some (Value.slice none 0 0),kind:=TK.slc 103,hints:=[3] }) ∧
    (tiOf Tryz.prog 54=some { size:=6,bytes:=72,zero:=some (Value.agg #[Value.int IntKind.i64 0,Value.int IntKind.i64 0,Value.int IntKind.i64 0,Value.string { data:=#[] },Value.bool false,Value.slice none 0 0]),kind:=TK.st [(0,1),(1,1),(2,1),(3,1),(4,1),(5,1)],hints:=[0,0,0,0,0,3] }) ∧
    (tiOf Tryz.prog 55=some { size:=6,bytes:=72,zero:=some (Value.agg #[Value.int IntKind.i64 0,Value.int IntKind.i64 0,Value.int IntKind.i64 0,Value.string { data:=#[] },Value.bool false,Value.slice none 0 0]),kind:=TK.st [(0,1),(1,1),(2,1),(3,1),(4,1),(5,1)],hints:=[0,0,0,0,0,3] }) ∧
    (tiOf Tryz.prog 56=some { size:=1,bytes:=8,zero:=some Value.nilFunc,kind:=TK.other,hints:=[0] }) ∧
    (tiOf Tryz.prog 57=some { size:=1,bytes:=8,zero:=some Value.nilFunc,kind:=TK.other,hints:=[0] }) ∧
    (tiOf Tryz.prog 58=some { size:=1,bytes:=8,zero:=some Value.nilFunc,kind:=TK.other,hints:=[0] }) ∧
    (tiOf Tryz.prog 59=some { size:=1,bytes:=8,zero:=some Value.nilFunc,kind:=TK.other,hints:=[0] }) ∧
    (tiOf Tryz.prog 60=some { size:=1,bytes:=24,zero:=some (Value.slice none 0 0),kind:=TK.slc 3,hints:=[1] }) ∧
    (tiOf Tryz.prog 61=some { size:=1,bytes:=0,zero:=some (Value.tuple #[Value.pointer none,Value.int IntKind.i64 0]),kind:=TK.other,hints:=[0] }) ∧
    (tiOf Tryz.prog 62=some { size:=1,bytes:=8,zero:=some Value.nilFunc,kind:=TK.other,hints:=[0] }) ∧
    (tiOf Tryz.prog 63=some { size:=1,bytes:=8,zero:=some Value.nilFunc,kind:=TK.other,hints:=[0] }) ∧
    (tiOf Tryz.prog 64=some { size:=1,bytes:=0,zero:=some (Value.tuple #[Value.slice none 0 0,Value.int IntKind.i64 0]),kind:=TK.other,hints:=[0] }) ∧
    (tiOf Tryz.prog 65=some { size:=1,bytes:=8,zero:=some Value.nilFunc,kind:=TK.other,hints:=[0] }) ∧
    (tiOf Tryz.prog 66=some { size:=1,bytes:=8,zero:=some Value.nilFunc,kind:=TK.other,hints:=[0] }) ∧
    (tiOf Tryz.prog 67=some { size:=4,bytes:=48,zero:=some (Value.agg #[Value.int IntKind.i64 0,Value.pointer none,Value.int IntKind.i64 0,Value.slice none 0 0]),kind:=TK.st [(0,1),(1,1),(2,1),(3,1)],hints:=[0,0,0,4] }) ∧
    (tiOf Tryz.prog 68=some { size:=4,bytes:=48,zero:=some (Value.agg #[Value.int IntKind.i64 0,Value.pointer none,Value.int IntKind.i64 0,Value.slice none 0 0]),kind:=TK.st [(0,1),(1,1),(2,1),(3,1)],hints:=[0,0,0,4] }) ∧
    (tiOf Tryz.prog 69=some { size:=1,bytes:=8,zero:=some (Value.map none),kind:=TK.other,hints:=[0] }) ∧
    (tiOf Tryz.prog 70=some { size:=1,bytes:=8,zero:=some (Value.agg #[Value.map none]),kind:=TK.st [(0,1)],hints:=[0] }) ∧
    (tiOf Tryz.prog 71=some { size:=1,bytes:=8,zero:=some (Value.agg #[Value.map none]),kind:=TK.st [(0,1)],hints:=[0] }) ∧
    (tiOf Tryz.prog 72=some { size:=1,bytes:=0,zero:=some (Value.tuple #[Value.pointer none,Value.int IntKind.i64 0,Value.int IntKind.i64 0]),kind:=TK.other,hints:=[0] }) ∧
    (tiOf Tryz.prog 73=some { size:=1,bytes:=8,zero:=some Value.nilFunc,kind:=TK.other,hints:=[0] }) ∧
    (tiOf Tryz.prog 74=some { size:=1,bytes:=8,zero:=some Value.nilFunc,kind:=TK.other,hints:=[0] }) ∧
    (tiOf Tryz.prog 75=some { size:=1,bytes:=8,zero:=some Value.nilFunc,kind:=TK.other,hints:=[0] }) ∧
    (tiOf Tryz.prog 76=some { size:=1,bytes:=8,zero:=some Value.nilFunc,kind:=TK.other,hints:=[0] }) ∧
    (tiOf Tryz.prog 77=some { size:=1,bytes:=8,zero:=some Value.nilFunc,kind:=TK.other,hints:=[0] }) ∧
    (tiOf Tryz.prog 78=some { size:=1,bytes:=8,zero:=some Value.nilFunc,kind:=TK.other,hints:=[0] }) ∧
    (tiOf Tryz.prog 79=some { size:=1,bytes:=8,zero:=some Value.nilFunc,kind:=TK.other,hints:=[0] }) ∧
    (tiOf Tryz.prog 80=some { size:=1,bytes:=8,zero:=some Value.nilFunc,kind:=TK.other,hints:=[0] }) ∧
    (tiOf Tryz.prog 81=some { size:=5,bytes:=56,zero:=some (Value.agg #[Value.int IntKind.i64 0,Value.int IntKind.i64 0,Value.string { data:=#[] },Value.bool false,Value.string { data:=#[] }]),kind:=TK.st [(0,1),(1,1),(2,1),(3,1),(4,1)],hints:=[0,0,0,0,0] }) ∧
    (tiOf Tryz.prog 82=some { size:=5,bytes:=56,zero:=some (Value.agg #[Value.int IntKind.i64 0,Value.int IntKind.i64 0,Value.string { data:=#[] },Value.bool false,Value.string { data:=#[] }]),kind:=TK.st [(0,1),(1,1),(2,1),(3,1),(4,1)],hints:=[0,0,0,0,0] }) ∧
    (tiOf Tryz.prog 83=some { size:=1,bytes:=8,zero:=some Value.nilFunc,kind:=TK.other,hints:=[0] }) ∧
    (tiOf Tryz.prog 84=some { size:=1,bytes:=0,zero:=some (Value.tuple #[Value.slice none 0 0,Value.int IntKind.i64 0]),kind:=TK.other,hints:=[0] }) ∧
    (tiOf Tryz.prog 85=some { size:=1,bytes:=8,zero:=some Value.nilFunc,kind:=TK.other,hints:=[0] }) ∧
    (tiOf Tryz.prog 86=some { size:=1,bytes:=8,zero:=some Value.nilFunc,kind:=TK.other,hints:=[0] }) ∧
    (tiOf Tryz.prog 87=some { size:=1,bytes:=8,zero:=some Value.nilFunc,kind:=TK.other,hints:=[0] }) ∧
    (tiOf Tryz.prog 88=some { size:=9,bytes:=120,zero:=some (Value.agg #[Value.int IntKind.i64 0,Value.int IntKind.i64 0,Value.int IntKind.i64 0,Value.int IntKind.i64 0,Value.int IntKind.i64 0,Value.slice none 0 0,Value.slice none 0 0,Value.slice none 0 0,Value.int IntKind.i64 0]),kind:=TK.st [(0,1),(1,1),(2,1),(3,1),(4,1),(5,1),(6,1),(7,1),(8,1)],hints:=[0,0,0,0,0,6,4,5,0] }) ∧
    (tiOf Tryz.prog 89=some { size:=9,bytes:=120,zero:=some (Value.agg #[Value.int IntKind.i64 0,Value.int IntKind.i64 0,Value.int IntKind.i64 0,Value.int IntKind.i64 0,Value.int IntKind.i64 0,Value.slice none 0 0,Value.slice none 0 0,Value.slice none 0 0,Value.int IntKind.i64 0]),kind:=TK.st [(0,1),(1,1),(2,1),(3,1),(4,1),(5,1),(6,1),(7,1),(8,1)],hints:=[0,0,0,0,0,6,4,5,0] }) ∧
    (tiOf Tryz.prog 90=some { size:=1,bytes:=8,zero:=some Value.nilFunc,kind:=TK.other,hints:=[0] }) ∧
    (tiOf Tryz.prog 91=some { size:=1,bytes:=8,zero:=some Value.nilFunc,kind:=TK.other,hints:=[0] }) ∧
    (tiOf Tryz.prog 92=some { size:=1,bytes:=8,zero:=some Value.nilFunc,kind:=TK.other,hints:=[0] }) ∧
    (tiOf Tryz.prog 93=some { size:=1,bytes:=8,zero:=some (Value.map none),kind:=TK.other,hints:=[0] }) ∧
    (tiOf Tryz.prog 94=some { size:=1,bytes:=8,zero:=some Value.nilFunc,kind:=TK.other,hints:=[0] }) ∧
    (tiOf Tryz.prog 95=some { size:=1,bytes:=8,zero:=some Value.nilFunc,kind:=TK.other,hints:=[0] }) ∧
    (tiOf Tryz.prog 96=some { size:=1,bytes:=8,zero:=some Value.nilFunc,kind:=TK.other,hints:=[0] }) ∧
    (tiOf Tryz.prog 97=some { size:=1,bytes:=8,zero:=some Value.nilFunc,kind:=TK.other,hints:=[0] }) ∧
    (tiOf Tryz.prog 98=some { size:=1,bytes:=8,zero:=some Value.nilFunc,kind:=TK.other,hints:=[0] }) ∧
    (tiOf Tryz.prog 99=some { size:=1,bytes:=8,zero:=some Value.nilFunc,kind:=TK.other,hints:=[0] }) ∧
    (tiOf Tryz.prog 100=some { size:=1,bytes:=8,zero:=some Value.nilFunc,kind:=TK.other,hints:=[0] }) ∧
    (tiOf Tryz.prog 101=some { size:=1,bytes:=8,zero:=some Value.nilFunc,kind:=TK.other,hints:=[0] }) ∧
    (tiOf Tryz.prog 102=some { size:=3,bytes:=32,zero:=some (Value.agg #[Value.int IntKind.i64 0,Value.int IntKind.i64 0,Value.string { data:=#[] }]),kind:=TK.st [(0,1),(1,1),(2,1)],hints:=[0,0,0] }) ∧
    (tiOf Tryz.prog 103=some { size:=3,bytes:=32,zero:=some (Value.agg #[Value.int IntKind.i64 0,Value.int IntKind.i64 0,Value.string { data:=#[] }]),kind:=TK.st [(0,1),(1,1),(2,1)],hints:=[0,0,0] }) ∧
    (tiOf Tryz.prog 104=some { size:=1,bytes:=8,zero:=some Value.nilFunc,kind:=TK.other,hints:=[0] }) ∧
    (tiOf Tryz.prog 105=some { size:=1,bytes:=8,zero:=some Value.nilFunc,kind:=TK.other,hints:=[0] }) ∧
    (tiOf Tryz.prog 106=some { size:=1,bytes:=8,zero:=some Value.nilFunc,kind:=TK.other,hints:=[0] }) ∧
    (tiOf Tryz.prog 107=some { size:=1,bytes:=8,zero:=some Value.nilFunc,kind:=TK.other,hints:=[0] }) ∧
    (tiOf Tryz.prog 108=some { size:=1,bytes:=8,zero:=some Value.nilFunc,kind:=TK.other,hints:=[0] }) ∧
    (tiOf Tryz.prog 109=some { size:=1,bytes:=8,zero:=some Value.nilFunc,kind:=TK.other,hints:=[0] }) ∧
    (tiOf Tryz.prog 110=some { size:=1,bytes:=0,zero:=some (Value.tuple #[Value.string { data:=#[] },Value.int IntKind.i64 0]),kind:=TK.other,hints:=[0] }) ∧
    (tiOf Tryz.prog 111=some { size:=1,bytes:=8,zero:=some Value.nilFunc,kind:=TK.other,hints:=[0] }) ∧
    (tiOf Tryz.prog 112=some { size:=1,bytes:=8,zero:=some Value.nilFunc,kind:=TK.other,hints:=[0] }) ∧
    (tiOf Tryz.prog 113=some { size:=1,bytes:=0,zero:=some (Value.tuple #[Value.agg #[Value.int IntKind.i64 0,Value.int IntKind.i64 0,Value.string { data:=#[] },Value.bool false,Value.string { data:=#[] }],Value.bool false]),kind:=TK.other,hints:=[0] }) ∧
    (tiOf Tryz.prog 114=some { size:=1,bytes:=0,zero:=some (Value.tuple #[Value.int IntKind.i64 0,Value.bool false]),kind:=TK.other,hints:=[0] }) ∧
    (tiOf Tryz.prog 115=some { size:=1,bytes:=8,zero:=some Value.nilFunc,kind:=TK.other,hints:=[0] }) ∧
    (tiOf Tryz.prog 116=some { size:=1,bytes:=8,zero:=some Value.nilFunc,kind:=TK.other,hints:=[0] }) ∧
    (tiOf Tryz.prog 117=some { size:=1,bytes:=0,zero:=some (Value.tuple #[Value.string { data:=#[] },Value.int IntKind.i64 0]),kind:=TK.other,hints:=[0] }) ∧
    (tiOf Tryz.prog 118=some { size:=1,bytes:=8,zero:=some Value.nilFunc,kind:=TK.other,hints:=[0] }) ∧
    (tiOf Tryz.prog 119=some { size:=1,bytes:=0,zero:=some (Value.tuple #[Value.int IntKind.i64 0,Value.int IntKind.i64 0]),kind:=TK.other,hints:=[0] }) ∧
    (tiOf Tryz.prog 120=some { size:=1,bytes:=8,zero:=some Value.nilFunc,kind:=TK.other,hints:=[0] }) ∧
    (tiOf Tryz.prog 121=some { size:=1,bytes:=0,zero:=some (Value.tuple #[Value.slice none 0 0,Value.bool false]),kind:=TK.other,hints:=[0] }) ∧
    (tiOf Tryz.prog 122=some { size:=1,bytes:=8,zero:=some Value.nilFunc,kind:=TK.other,hints:=[0] }) ∧
    (tiOf Tryz.prog 123=some { size:=1,bytes:=8,zero:=some Value.nilFunc,kind:=TK.other,hints:=[0] }) ∧
    (tiOf Tryz.prog 124=some { size:=1,bytes:=8,zero:=some Value.nilFunc,kind:=TK.other,hints:=[0] }) ∧
    (tiOf Tryz.prog 125=some { size:=1,bytes:=8,zero:=some Value.nilFunc,kind:=TK.other,hints:=[0] }) ∧
    (tiOf Tryz.prog 126=some { size:=1,bytes:=8,zero:=some Value.nilFunc,kind:=TK.other,hints:=[0] }) ∧
    (tiOf Tryz.prog 127=some { size:=1,bytes:=8,zero:=some Value.nilFunc,kind:=TK.other,hints:=[0] }) ∧
    (tiOf Tryz.prog 128=some { size:=1,bytes:=8,zero:=some Value.nilFunc,kind:=TK.other,hints:=[0] }) ∧
    (tiOf Tryz.prog 129=some { size:=1,bytes:=8,zero:=some Value.nilFunc,kind:=TK.other,hints:=[0] }) ∧
    (tiOf Tryz.prog 130=some { size:=1,bytes:=8,zero:=some (Value.int IntKind.u64 0),kind:=TK.int IntKind.u64,hints:=[0] }) ∧
    (tiOf Tryz.prog 131=some { size:=1,bytes:=8,zero:=some Value.nilFunc,kind:=TK.other,hints:=[0] }) ∧
    (tiOf Tryz.prog 132=some { size:=1,bytes:=8,zero:=some Value.nilFunc,kind:=TK.other,hints:=[0] }) ∧
    (tiOf Tryz.prog 133=some { size:=1,bytes:=8,zero:=some Value.nilFunc,kind:=TK.other,hints:=[0] }) ∧
    (tiOf Tryz.prog 134=some { size:=1,bytes:=24,zero:=some (Value.slice none 0 0),kind:=TK.slc 5,hints:=[1] }) ∧
    (tiOf Tryz.prog 135=some { size:=1,bytes:=8,zero:=some Value.nilFunc,kind:=TK.other,hints:=[0] }) ∧
    (tiOf Tryz.prog 136=some { size:=1,bytes:=8,zero:=some Value.nilFunc,kind:=TK.other,hints:=[0] }) ∧
    (tiOf Tryz.prog 137=some { size:=1,bytes:=8,zero:=some Value.nilFunc,kind:=TK.other,hints:=[0] }) ∧
    (tiOf Tryz.prog 138=some { size:=1,bytes:=8,zero:=some Value.nilFunc,kind:=TK.other,hints:=[0] }) ∧
    (tiOf Tryz.prog 139=some { size:=1,bytes:=8,zero:=some Value.nilFunc,kind:=TK.other,hints:=[0] }) ∧
    (tiOf Tryz.prog 140=some { size:=1,bytes:=24,zero:=some (Value.slice none 0 0),kind:=TK.slc 144,hints:=[5] }) ∧
    (tiOf Tryz.prog 141=some { size:=1,bytes:=0,zero:=some (Value.tuple #[Value.slice none 0 0,Value.int IntKind.i64 0]),kind:=TK.other,hints:=[0] }) ∧
    (tiOf Tryz.prog 142=some { size:=1,bytes:=8,zero:=some Value.nilFunc,kind:=TK.other,hints:=[0] }) ∧
    (tiOf Tryz.prog 143=some { size:=5,bytes:=64,zero:=some (Value.agg #[Value.int IntKind.i64 0,Value.int IntKind.i64 0,Value.string { data:=#[] },Value.string { data:=#[] },Value.string { data:=#[] }]),kind:=TK.st [(0,3),(3,1),(4,1)],hints:=[0,0,0,0,0] }) ∧
    (tiOf Tryz.prog 144=some { size:=5,bytes:=64,zero:=some (Value.agg #[Value.int IntKind.i64 0,Value.int IntKind.i64 0,Value.string { data:=#[] },Value.string { data:=#[] },Value.string { data:=#[] }]),kind:=TK.st [(0,3),(3,1),(4,1)],hints:=[0,0,0,0,0] }) ∧
    (tiOf Tryz.prog 145=some { size:=1,bytes:=0,zero:=some (Value.tuple #[Value.int IntKind.i64 0,Value.int IntKind.i64 0]),kind:=TK.other,hints:=[0] }) ∧
    (tiOf Tryz.prog 146=some { size:=1,bytes:=8,zero:=some Value.nilFunc,kind:=TK.other,hints:=[0] }) ∧
    (tiOf Tryz.prog 147=some { size:=1,bytes:=8,zero:=some Value.nilFunc,kind:=TK.other,hints:=[0] }) ∧
    (tiOf Tryz.prog 148=some { size:=1,bytes:=8,zero:=some Value.nilFunc,kind:=TK.other,hints:=[0] }) ∧
    (tiOf Tryz.prog 149=some { size:=1,bytes:=8,zero:=some Value.nilFunc,kind:=TK.other,hints:=[0] }) ∧
    (tiOf Tryz.prog 150=some { size:=1,bytes:=8,zero:=some (Value.int IntKind.i64 0),kind:=TK.int IntKind.i64,hints:=[0] }) ∧
    (tiOf Tryz.prog 151=some { size:=1,bytes:=0,zero:=some (Value.tuple #[Value.int IntKind.i64 0,Value.int IntKind.i64 0]),kind:=TK.other,hints:=[0] }) ∧
    (tiOf Tryz.prog 152=some { size:=1,bytes:=8,zero:=some Value.nilFunc,kind:=TK.other,hints:=[0] }) ∧
    (tiOf Tryz.prog 153=some { size:=1,bytes:=8,zero:=some Value.nilFunc,kind:=TK.other,hints:=[0] }) ∧
    (tiOf Tryz.prog 154=some { size:=1,bytes:=8,zero:=some Value.nilFunc,kind:=TK.other,hints:=[0] }) ∧
    (tiOf Tryz.prog 155=some { size:=1,bytes:=8,zero:=some Value.nilFunc,kind:=TK.other,hints:=[0] }) ∧
    (tiOf Tryz.prog 156=some { size:=1,bytes:=8,zero:=some Value.nilFunc,kind:=TK.other,hints:=[0] }) ∧
    (tiOf Tryz.prog 157=some { size:=1,bytes:=8,zero:=some Value.nilFunc,kind:=TK.other,hints:=[0] }) ∧
    (tiOf Tryz.prog 158=some { size:=1,bytes:=4,zero:=some (Value.int IntKind.u32 0),kind:=TK.int IntKind.u32,hints:=[0] }) ∧
    (tiOf Tryz.prog 159=some { size:=1,bytes:=8,zero:=some Value.nilFunc,kind:=TK.other,hints:=[0] }) ∧
    (tiOf Tryz.prog 160=some { size:=1,bytes:=8,zero:=some (Value.int IntKind.u64 0),kind:=TK.int IntKind.u64,hints:=[0] }) ∧
    (tiOf Tryz.prog 161=some { size:=1,bytes:=8,zero:=some Value.nilFunc,kind:=TK.other,hints:=[0] }) ∧
    (tiOf Tryz.prog 162=some { size:=1,bytes:=8,zero:=some Value.nilFunc,kind:=TK.other,hints:=[0] }) ∧
    (tiOf Tryz.prog 163=some { size:=1,bytes:=8,zero:=some Value.nilFunc,kind:=TK.other,hints:=[0] }) ∧
    (tiOf Tryz.prog 164=some { size:=1,bytes:=8,zero:=some Value.nilFunc,kind:=TK.other,hints:=[0] }) ∧
    (tiOf Tryz.prog 165=some { size:=1,bytes:=24,zero:=some (Value.slice none 0 0),kind:=TK.slc 21,hints:=[1] }) ∧
    (tiOf Tryz.prog 166=some { size:=1,bytes:=8,zero:=some Value.nilFunc,kind:=TK.other,hints:=[0] }) ∧
    (tiOf Tryz.prog 167=some { size:=1,bytes:=8,zero:=some (Value.int IntKind.u64 0),kind:=TK.int IntKind.u64,hints:=[0] }) ∧
    (tiOf Tryz.prog 168=some { size:=1,bytes:=8,zero:=some Value.nilFunc,kind:=TK.other,hints:=[0] }) ∧
    (tiOf Tryz.prog 169=some { size:=1,bytes:=8,zero:=some Value.nilFunc,kind:=TK.other,hints:=[0] }) ∧
    (tiOf Tryz.prog 170=some { size:=1,bytes:=8,zero:=some Value.nilFunc,kind:=TK.other,hints:=[0] }) ∧
    (tiOf Tryz.prog 171=some { size:=1,bytes:=8,zero:=some (Value.pointer none),kind:=TK.other,hints:=[0] }) ∧
    (tiOf Tryz.prog 172=some { size:=1,bytes:=8,zero:=some Value.nilFunc,kind:=TK.other,hints:=[0] }) ∧
    (tiOf Tryz.prog 173=some { size:=1,bytes:=8,zero:=some Value.nilFunc,kind:=TK.other,hints:=[0] }) ∧
    (tiOf Tryz.prog 174=some { size:=1,bytes:=8,zero:=some Value.nilFunc,kind:=TK.other,hints:=[0] }) ∧
    (tiOf Tryz.prog 175=some { size:=1,bytes:=8,zero:=some Value.nilFunc,kind:=TK.other,hints:=[0] }) ∧
    (tiOf Tryz.prog 176=some { size:=1,bytes:=8,zero:=some Value.nilFunc,kind:=TK.other,hints:=[0] }) ∧
    (tiOf Tryz.prog 177=some { size:=1,bytes:=8,zero:=some Value.nilFunc,kind:=TK.other,hints:=[0] }) ∧
    (tiOf Tryz.prog 178=some { size:=1,bytes:=8,zero:=some Value.nilFunc,kind:=TK.other,hints:=[0] }) ∧
    (tiOf Tryz.prog 179=some { size:=256,bytes:=256,zero:=some (Value.agg #[Value.int IntKind.u8 0,Value.int IntKind.u8 0,Value.int IntKind.u8 0,Value.int IntKind.u8 0,Value.int IntKind.u8 0,Value.int IntKind.u8 0,Value.int IntKind.u8 0,Value.int IntKind.u8 0,Value.int IntKind.u8 0,Value.int IntKind.u8 0,Value.int IntKind.u8 0,Value.int IntKind.u8 0,Value.int IntKind.u8 0,Value.int IntKind.u8 0,Value.int IntKind.u8 0,Value.int IntKind.u8 0,Value.int IntKind.u8 0,Value.int IntKind.u8 0,Value.int IntKind.u8 0,Value.int IntKind.u8 0,Value.int IntKind.u8 0,Value.int IntKind.u8 0,Value.int IntKind.u8 0,Value.int IntKind.u8 0,Value.int IntKind.u8 0,Value.int IntKind.u8 0,Value.int IntKind.u8 0,Value.int IntKind.u8 0,Value.int IntKind.u8 0,Value.int IntKind.u8 0,Value.int IntKind.u8 0,Value.int IntKind.u8 0,Value.int IntKind.u8 0,Value.int IntKind.u8 0,Value.int IntKind.u8 0,Value.int IntKind.u8 0,Value.int IntKind.u8 0,Value.int IntKind.u8 0,Value.int IntKind.u8 0,Value.int IntKind.u8 0,Value.int IntKind.u8 0,Value.int IntKind.u8 0,Value.int IntKind.u8 0,Value.int IntKind.u8 0,Value.int IntKind.u8 0,Value.int IntKind.u8 0,Value.int IntKind.u8 0,Value.int IntKind.u8 0,Value.int IntKind.u8 0,Value.int IntKind.u8 0,Value.int IntKind.u8 0,Value.int IntKind.u8 0,Value.int IntKind.u8 0,Value.int IntKind.u8 0,Value.int IntKind.u8 0,Value.int IntKind.u8 0,Value.int IntKind.u8 0,Value.int IntKind.u8 0,Value.int IntKind.u8 0,Value.int IntKind.u8 0,Value.int IntKind.u8 0,Value.int IntKind.u8 0,Value.int IntKind.u8 0,Value.int IntKind.u8 0,Value.int IntKind.u8 0,Value.int IntKind.u8 0,Value.int IntKind.u8 0,Value.int IntKind.u8 0,Value.int IntKind.u8 0,Value.int IntKind.u8 0,Value.int IntKind.u8 0,Value.int IntKind.u8 0,Value.int IntKind.u8 0,Value.int IntKind.u8 0,Value.int IntKind.u8 0,Value.int IntKind.u8 0,Value.int IntKind.u8 0,Value.int IntKind.u8 0,Value.int IntKind.u8 0,Value.int IntKind.u8 0,Value.int IntKind.u8 0,Value.int IntKind.u8 0,Value.int IntKind.u8 0,Value.int IntKind.u8 0,Value.int IntKind.u8 0,Value.int IntKind.u8 0,Value.int IntKind.u8 0,Value.int IntKind.u8 0,Value.int IntKind.u8 0,Value.int IntKind.u8 0,Value.int IntKind.u8 0,Value.int IntKind.u8 0,Value.int IntKind.u8 0,Value.int IntKind.u8 0,Value.int IntKind.u8 0,Value.int IntKind.u8 0,Value.int IntKind.u8 0,Value.int IntKind.u8 0,Value.int IntKind.u8 0,Value.int IntKind.u8 0,Value.int IntKind.u8 0,Value.int IntKind.u8 0,Value.int IntKind.u8 0,Value.int IntKind.u8 0,Value.int IntKind.u8 0,Value.int IntKind.u8 0,Value.int IntKind.u8 0,Value.int IntKind.u8 0,Value.int IntKind.u8 0,Value.int IntKind.u8 0,Value.int IntKind.u8 0,Value.int IntKind.u8 0,Value.int IntKind.u8 0,Value.int IntKind.u8 0,Value.int IntKind.u8 0,Value.int IntKind.u8 0,Value.int IntKind.u8 0,Value.int IntKind.u8 0,Value.int IntKind.u8 0,Value.int IntKind.u8 0,Value.int IntKind.u8 0,Value.int IntKind.u8 0,Value.int IntKind.u8 0,Value.int IntKind.u8 0,Value.int IntKind.u8 0,Value.int IntKind.u8 0,Value.int IntKind.u8 0,Value.int IntKind.u8 0,Value.int IntKind.u8 0,Value.int IntKind.u8 0,Value.int IntKind.u8 0,Value.int IntKind.u8 0,Value.int IntKind.u8 0,Value.int IntKind.u8 0,Value.int IntKind.u8 0,Value.int IntKind.u8 0,Value.int IntKind.u8 0,Value.int IntKind.u8 0,Value.int IntKind.u8 0,Value.int IntKind.u8 0,Value.int IntKind.u8 0,Value.int IntKind.u8 0,Value.int IntKind.u8 0,Value.int IntKind.u8 0,Value.int IntKind.u8 0,Value.int IntKind.u8 0,Value.int IntKind.u8 0,Value.int IntKind.u8 0,Value.int IntKind.u8 0,Value.int IntKind.u8 0,Value.int IntKind.u8 0,Value.int IntKind.u8 0,Value.int IntKind.u8 0,Value.int IntKind.u8 0,Value.int IntKind.u8 0,Value.int IntKind.u8 0,Value.int IntKind.u8 0,Value.int IntKind.u8 0,Value.int IntKind.u8 0,Value.int IntKind.u8 0,Value.int IntKind.u8 0,Value.int IntKind.u8 0,Value.int IntKind.u8 0,Value.int IntKind.u8 0,Value.int IntKind.u8 0,Value.int IntKind.u8 0,Value.int IntKind.u8 0,Value.int IntKind.u8 0,Value.int IntKind.u8 0,Value.int IntKind.u8 0,Value.int IntKind.u8 0,Value.int IntKind.u8 0,Value.int IntKind.u8 0,Value.int IntKind.u8 0,Value.int IntKind.u8 0,Value.int IntKind.u8 0,Value.int IntKind.u8 0,Value.int IntKind.u8 0,Value.int IntKind.u8 0,Value.int IntKind.u8 0,Value.int IntKind.u8 0,Value.int IntKind.u8 0,Value.int IntKind.u8 0,Value.int IntKind.u8 0,Value.int IntKind.u8 0,Value.int IntKind.u8 0,Value.int IntKind.u8 0,Value.int IntKind.u8 0,Value.int IntKind.u8 0,Value.int IntKind.u8 0,Value.int IntKind.u8 0,Value.int IntKind.u8 0,Value.int IntKind.u8 0,Value.int IntKind.u8 0,Value.int IntKind.u8 0,Value.int IntKind.u8 0,Value.int IntKind.u8 0,Value.int IntKind.u8 0,Value.int IntKind.u8 0,Value.int IntKind.u8 0,Value.int IntKind.u8 0,Value.int IntKind.u8 0,Value.int IntKind.u8 0,Value.int IntKind.u8 0,Value.int IntKind.u8 0,Value.int IntKind.u8 0,Value.int IntKind.u8 0,Value.int IntKind.u8 0,Value.int IntKind.u8 0,Value.int IntKind.u8 0,Value.int IntKind.u8 0,Value.int IntKind.u8 0,Value.int IntKind.u8 0,Value.int IntKind.u8 0,Value.int IntKind.u8 0,Value.int IntKind.u8 0,Value.int IntKind.u8 0,Value.int IntKind.u8 0,Value.int IntKind.u8 0,Value.int IntKind.u8 0,Value.int IntKind.u8 0,Value.int IntKind.u8 0,Value.int IntKind.u8 0,Value.int IntKind.u8 0,Value.int IntKind.u8 0,Value.int IntKind.u8 0,Value.int IntKind.u8 0,Value.int IntKind.u8 0,Value.int IntKind.u8 0,Value.int IntKind.u8 0,Value.int IntKind.u8 0,Value.int IntKind.u8 0,Value.int IntKind.u8 0,Value.int IntKind.u8 0,Value.int IntKind.u8 0,Value.int IntKind.u8 0,Value.int IntKind.u8 0,Value.int IntKind.u8 0,Value.int IntKind.u8 0,Value.int IntKind.u8 0,Value.int IntKind.u8 0,Value.int IntKind.u8 0,Value.int IntKind.u8 0,Value.int IntKind.u8 0,Value.int IntKind.u8 0,Value.int IntKind.u8 0,Value.int IntKind.u8 0,Value.int IntKind.u8 0,Value.int IntKind.u8 0,Value.int IntKind.u8 0,Value.int IntKind.u8 0,Value.int IntKind.u8 0,Value.int IntKind.u8 0,Value.int IntKind.u8 0,Value.int IntKind.u8 0,Value.int IntKind.u8 0]),kind:=TK.arr 256 5,hints:=[0,0,0,0,0,0,0,0,0,0,0,0,0,0,0,0,0,0,0,0,0,0,0,0,0,0,0,0,0,0,0,0,0,0,0,0,0,0,0,0,0,0,0,0,0,0,0,0,0,0,0,0,0,0,0,0,0,0,0,0,0,0,0,0,0,0,0,0,0,0,0,0,0,0,0,0,0,0,0,0,0,0,0,0,0,0,0,0,0,0,0,0,0,0,0,0,0,0,0,0,0,0,0,0,0,0,0,0,0,0,0,0,0,0,0,0,0,0,0,0,0,0,0,0,0,0,0,0,0,0,0,0,0,0,0,0,0,0,0,0,0,0,0,0,0,0,0,0,0,0,0,0,0,0,0,0,0,0,0,0,0,0,0,0,0,0,0,0,0,0,0,0,0,0,0,0,0,0,0,0,0,0,0,0,0,0,0,0,0,0,0,0,0,0,0,0,0,0,0,0,0,0,0,0,0,0,0,0,0,0,0,0,0,0,0,0,0,0,0,0,0,0,0,0,0,0,0,0,0,0,0,0,0,0,0,0,0,0,0,0,0,0,0,0,0,0,0,0,0,0,0,0,0,0,0,0] }) ∧
    (tiOf Tryz.prog 180=some { size:=2,bytes:=2,zero:=some (Value.agg #[Value.int IntKind.u8 0,Value.int IntKind.u8 0]),kind:=TK.st [(0,1),(1,1)],hints:=[0,0] }) ∧
    (tiOf Tryz.prog 181=some { size:=2,bytes:=2,zero:=some (Value.agg #[Value.int IntKind.u8 0,Value.int IntKind.u8 0]),kind:=TK.st [(0,1),(1,1)],hints:=[0,0] }) ∧
    (tiOf Tryz.prog 182=some { size:=32,bytes:=32,zero:=some (Value.agg #[Value.int IntKind.u8 0,Value.int IntKind.u8 0,Value.int IntKind.u8 0,Value.int IntKind.u8 0,Value.int IntKind.u8 0,Value.int IntKind.u8 0,Value.int IntKind.u8 0,Value.int IntKind.u8 0,Value.int IntKind.u8 0,Value.int IntKind.u8 0,Value.int IntKind.u8 0,Value.int IntKind.u8 0,Value.int IntKind.u8 0,Value.int IntKind.u8 0,Value.int IntKind.u8 0,Value.int IntKind.u8 0,Value.int IntKind.u8 0,Value.int IntKind.u8 0,Value.int IntKind.u8 0,Value.int IntKind.u8 0,Value.int IntKind.u8 0,Value.int IntKind.u8 0,Value.int IntKind.u8 0,Value.int IntKind.u8 0,Value.int IntKind.u8 0,Value.int IntKind.u8 0,Value.int IntKind.u8 0,Value.int IntKind.u8 0,Value.int IntKind.u8 0,Value.int IntKind.u8 0,Value.int IntKind.u8 0,Value.int IntKind.u8 0]),kind:=TK.arr 16 181,hints:=[0,0,0,0,0,0,0,0,0,0,0,0,0,0,0,0,0,0,0,0,0,0,0,0,0,0,0,0,0,0,0,0] }) ∧
    (tiOf Tryz.prog 183=some { size:=1,bytes:=8,zero:=some Value.nilFunc,kind:=TK.other,hints:=[0] }) ∧
    (tiOf Tryz.prog 184=some { size:=1,bytes:=8,zero:=some (Value.pointer none),kind:=TK.other,hints:=[0] }) ∧
    (tiOf Tryz.prog 185=some { size:=1,bytes:=8,zero:=some Value.nilFunc,kind:=TK.other,hints:=[0] }) ∧
    (tiOf Tryz.prog 186=some { size:=1,bytes:=8,zero:=some Value.nilFunc,kind:=TK.other,hints:=[0] }) ∧
    (tiOf Tryz.prog 187=some { size:=1,bytes:=8,zero:=some Value.nilFunc,kind:=TK.other,hints:=[0] }) ∧
    (tiOf Tryz.prog 188=some { size:=1,bytes:=8,zero:=some Value.nilFunc,kind:=TK.other,hints:=[0] }) ∧
    (tiOf Tryz.prog 189=some { size:=1,bytes:=8,zero:=some Value.nilFunc,kind:=TK.other,hints:=[0] }) ∧
    (tiOf Tryz.prog 190=some { size:=1,bytes:=8,zero:=some Value.nilFunc,kind:=TK.other,hints:=[0] }) ∧
    (tiOf Tryz.prog 191=some { size:=1,bytes:=0,zero:=some (Value.tuple #[Value.int IntKind.u32 0,Value.int IntKind.u32 0]),kind:=TK.other,hints:=[0] }) ∧
    (tiOf Tryz.prog 192=some { size:=1,bytes:=8,zero:=some Value.nilFunc,kind:=TK.other,hints:=[0] }) ∧
    (tiOf Tryz.prog 193=some { size:=1,bytes:=8,zero:=some Value.nilFunc,kind:=TK.other,hints:=[0] }) ∧
    (tiOf Tryz.prog 194=some { size:=4,bytes:=40,zero:=some (Value.agg #[Value.pointer none,Value.pointer none,Value.pointer none,Value.string { data:=#[] }]),kind:=TK.st [(0,1),(1,1),(2,1),(3,1)],hints:=[0,0,0,0] }) ∧
    (tiOf Tryz.prog 195=some { size:=4,bytes:=40,zero:=some (Value.agg #[Value.pointer none,Value.pointer none,Value.pointer none,Value.string { data:=#[] }]),kind:=TK.st [(0,1),(1,1),(2,1),(3,1)],hints:=[0,0,0,0] }) ∧
    (tiOf Tryz.prog 196=some { size:=0,bytes:=0,zero:=some (Value.agg #[]),kind:=TK.arr 0 16,hints:=[] }) ∧
    (tiOf Tryz.prog 197=some { size:=0,bytes:=0,zero:=some (Value.agg #[]),kind:=TK.st [(0,0)],hints:=[] }) ∧
    (tiOf Tryz.prog 198=some { size:=0,bytes:=0,zero:=some (Value.agg #[]),kind:=TK.st [(0,0)],hints:=[] }) ∧
    (tiOf Tryz.prog 199=some { size:=1,bytes:=1,zero:=some (Value.int IntKind.u8 0),kind:=TK.int IntKind.u8,hints:=[0] }) ∧
    (tiOf Tryz.prog 200=some { size:=1,bytes:=1,zero:=some (Value.int IntKind.u8 0),kind:=TK.int IntKind.u8,hints:=[0] }) ∧
    (tiOf Tryz.prog 201=some { size:=1,bytes:=8,zero:=some Value.nilFunc,kind:=TK.other,hints:=[0] }) ∧
    (tiOf Tryz.prog 202=some { size:=1,bytes:=8,zero:=some (Value.pointer none),kind:=TK.other,hints:=[0] }) ∧
    (tiOf Tryz.prog 203=some { size:=1,bytes:=4,zero:=some (Value.int IntKind.i32 0),kind:=TK.int IntKind.i32,hints:=[0] }) ∧
    (tiOf Tryz.prog 204=some { size:=1,bytes:=4,zero:=some (Value.int IntKind.i32 0),kind:=TK.int IntKind.i32,hints:=[0] }) ∧
    (tiOf Tryz.prog 205=some { size:=11,bytes:=48,zero:=some (Value.agg #[Value.int IntKind.u64 0,Value.int IntKind.u64 0,Value.int IntKind.u32 0,Value.int IntKind.u8 0,Value.int IntKind.u8 0,Value.int IntKind.u8 0,Value.int IntKind.u8 0,Value.nilFunc,Value.pointer none,Value.int IntKind.i32 0,Value.int IntKind.i32 0]),kind:=TK.st [(0,1),(1,1),(2,1),(3,1),(4,1),(5,1),(6,1),(7,1),(8,1),(9,1),(10,1)],hints:=[0,0,0,0,0,0,0,0,0,0,0] }) ∧
    (tiOf Tryz.prog 206=some { size:=11,bytes:=48,zero:=some (Value.agg #[Value.int IntKind.u64 0,Value.int IntKind.u64 0,Value.int IntKind.u32 0,Value.int IntKind.u8 0,Value.int IntKind.u8 0,Value.int IntKind.u8 0,Value.int IntKind.u8 0,Value.nilFunc,Value.pointer none,Value.int IntKind.i32 0,Value.int IntKind.i32 0]),kind:=TK.st [(0,1),(1,1),(2,1),(3,1),(4,1),(5,1),(6,1),(7,1),(8,1),(9,1),(10,1)],hints:=[0,0,0,0,0,0,0,0,0,0,0] }) ∧
    (tiOf Tryz.prog 207=some { size:=1,bytes:=8,zero:=some (Value.pointer none),kind:=TK.other,hints:=[0] }) :=
 ⟨by kernel_rfl,by kernel_rfl,by kernel_rfl,by kernel_rfl,by kernel_rfl,by kernel_rfl,by kernel_rfl,by kernel_rfl,by kernel_rfl,by kernel_rfl,by kernel_rfl,by kernel_rfl,by kernel_rfl,by kernel_rfl,by kernel_rfl,by kernel_rfl,by kernel_rfl,by kernel_rfl,by kernel_rfl,by kernel_rfl,by kernel_rfl,by kernel_rfl,by kernel_rfl,by kernel_rfl,by kernel_rfl,by kernel_rfl,by kernel_rfl,by kernel_rfl,by kernel_rfl,by kernel_rfl,by kernel_rfl,by kernel_rfl,by kernel_rfl,by kernel_rfl,by kernel_rfl,by kernel_rfl,by kernel_rfl,by kernel_rfl,by kernel_rfl,by kernel_rfl,by kernel_rfl,by kernel_rfl,by kernel_rfl,by kernel_rfl,by kernel_rfl,by kernel_rfl,by kernel_rfl,by kernel_rfl,by kernel_rfl,by kernel_rfl,by kernel_rfl,by kernel_rfl,by kernel_rfl,by kernel_rfl,by kernel_rfl,by kernel_rfl,by kernel_rfl,by kernel_rfl,by kernel_rfl,by kernel_rfl,by kernel_rfl,by kernel_rfl,by kernel_rfl,by kernel_rfl,by kernel_rfl,by kernel_rfl,by kernel_rfl,by kernel_rfl,by kernel_rfl,by kernel_rfl,by kernel_rfl,by kernel_rfl,by kernel_rfl,by kernel_rfl,by kernel_rfl,by kernel_rfl,by kernel_rfl,by kernel_rfl,by kernel_rfl,by kernel_rfl,by kernel_rfl,by kernel_rfl,by kernel_rfl,by kernel_rfl,by kernel_rfl,by kernel_rfl,by kernel_rfl,by kernel_rfl,by kernel_rfl,by kernel_rfl,by kernel_rfl,by kernel_rfl,by kernel_rfl,by kernel_rfl,by kernel_rfl,by kernel_rfl,by kernel_rfl,by kernel_rfl,by kernel_rfl,by kernel_rfl,by kernel_rfl,by kernel_rfl,by kernel_rfl,by kernel_rfl,by kernel_rfl,by kernel_rfl,by kernel_rfl,by kernel_rfl,by kernel_rfl,by kernel_rfl,by kernel_rfl,by kernel_rfl,by kernel_rfl,by kernel_rfl,by kernel_rfl,by kernel_rfl,by kernel_rfl,by kernel_rfl,by kernel_rfl,by kernel_rfl,by kernel_rfl,by kernel_rfl,by kernel_rfl,by kernel_rfl,by kernel_rfl,by kernel_rfl,by kernel_rfl,by kernel_rfl,by kernel_rfl,by kernel_rfl,by kernel_rfl,by kernel_rfl,by kernel_rfl,by kernel_rfl,by kernel_rfl,by kernel_rfl,by kernel_rfl,by kernel_rfl,by kernel_rfl,by kernel_rfl,by kernel_rfl,by kernel_rfl,by kernel_rfl,by kernel_rfl,by kernel_rfl,by kernel_rfl,by kernel_rfl,by kernel_rfl,by kernel_rfl,by kernel_rfl,by kernel_rfl,by kernel_rfl,by kernel_rfl,by kernel_rfl,by kernel_rfl,by kernel_rfl,by kernel_rfl,by kernel_rfl,by kernel_rfl,by kernel_rfl,by kernel_rfl,by kernel_rfl,by kernel_rfl,by kernel_rfl,by kernel_rfl,by kernel_rfl,by kernel_rfl,by kernel_rfl,by kernel_rfl,by kernel_rfl,by kernel_rfl,by kernel_rfl,by kernel_rfl,by kernel_rfl,by kernel_rfl,by kernel_rfl,by kernel_rfl,by kernel_rfl,by kernel_rfl,by kernel_rfl,by kernel_rfl,by kernel_rfl,by kernel_rfl,by kernel_rfl,by kernel_rfl,by kernel_rfl,by kernel_rfl,by kernel_rfl,by kernel_rfl,by kernel_rfl,by kernel_rfl,by kernel_rfl,by kernel_rfl,by kernel_rfl,by kernel_rfl,by kernel_rfl,by kernel_rfl,by kernel_rfl,by kernel_rfl,by kernel_rfl,by kernel_rfl,by kernel_rfl,by kernel_rfl,by kernel_rfl,by kernel_rfl,by kernel_rfl,by kernel_rfl,by kernel_rfl⟩
theorem unRules:(Program.underlying Tryz.prog 2=some (TypeDesc.int IntKind.i64)) ∧
    (Program.underlying Tryz.prog 3=some (TypeDesc.int IntKind.i64)) ∧
    (Program.underlying Tryz.prog 4=some TypeDesc.bool) ∧
    (Program.underlying Tryz.prog 5=some (TypeDesc.int IntKind.u8)) ∧
    (Program.underlying Tryz.prog 6=some (TypeDesc.int IntKind.u8)) ∧
    (Program.underlying Tryz.prog 9=some TypeDesc.string) ∧
    (Program.underlying Tryz.prog 10=some TypeDesc.string) ∧
    (Program.underlying Tryz.prog 11=some TypeDesc.string) ∧
    (Program.underlying Tryz.prog 12=some (TypeDesc.int IntKind.u64)) ∧
    (Program.underlying Tryz.prog 15=some (TypeDesc.pointer 195)) ∧
    (Program.underlying Tryz.prog 16=some (TypeDesc.pointer 198)) ∧
    (Program.underlying Tryz.prog 17=some (TypeDesc.pointer 206)) ∧
    (Program.underlying Tryz.prog 21=some (TypeDesc.int IntKind.i32)) ∧
    (Program.underlying Tryz.prog 23=some (TypeDesc.pointer 68)) ∧
    (Program.underlying Tryz.prog 24=some (TypeDesc.int IntKind.i64)) ∧
    (Program.underlying Tryz.prog 27=some (TypeDesc.pointer 71)) ∧
    (Program.underlying Tryz.prog 30=some (TypeDesc.slice 55)) ∧
    (Program.underlying Tryz.prog 34=some (TypeDesc.slice 32)) ∧
    (Program.underlying Tryz.prog 39=some (TypeDesc.slice 30)) ∧
    (Program.underlying Tryz.prog 40=some (TypeDesc.slice 42)) ∧
    (Program.underlying Tryz.prog 42=some (TypeDesc.slice 82)) ∧
    (Program.underlying Tryz.prog 49=some (TypeDesc.pointer 51)) ∧
    (Program.underlying Tryz.prog 53=some (TypeDesc.slice 103)) ∧
    (Program.underlying Tryz.prog 60=some (TypeDesc.slice 3)) ∧
    (Program.underlying Tryz.prog 69=some (TypeDesc.map 3 82)) ∧
    (keyT Tryz.prog 69=some (TypeDesc.int IntKind.i64)) ∧
    (kDH Tryz.prog 69=some 82) ∧
    (Program.underlying Tryz.prog 93=some (TypeDesc.map 82 3)) ∧
    (keyT Tryz.prog 93=none) ∧
    (kDH Tryz.prog 93=some 3) ∧
    (Program.underlying Tryz.prog 130=some (TypeDesc.int IntKind.u64)) ∧
    (Program.underlying Tryz.prog 134=some (TypeDesc.slice 5)) ∧
    (Program.underlying Tryz.prog 140=some (TypeDesc.slice 144)) ∧
    (Program.underlying Tryz.prog 150=some (TypeDesc.int IntKind.i64)) ∧
    (Program.underlying Tryz.prog 158=some (TypeDesc.int IntKind.u32)) ∧
    (Program.underlying Tryz.prog 160=some (TypeDesc.int IntKind.u64)) ∧
    (Program.underlying Tryz.prog 165=some (TypeDesc.slice 21)) ∧
    (Program.underlying Tryz.prog 167=some (TypeDesc.int IntKind.u64)) ∧
    (Program.underlying Tryz.prog 171=some (TypeDesc.pointer 3)) ∧
    (Program.underlying Tryz.prog 179=some (TypeDesc.array 256 5)) ∧
    (Program.underlying Tryz.prog 182=some (TypeDesc.array 16 181)) ∧
    (Program.underlying Tryz.prog 184=some (TypeDesc.pointer 167)) ∧
    (Program.underlying Tryz.prog 196=some (TypeDesc.array 0 16)) ∧
    (Program.underlying Tryz.prog 199=some (TypeDesc.int IntKind.u8)) ∧
    (Program.underlying Tryz.prog 200=some (TypeDesc.int IntKind.u8)) ∧
    (Program.underlying Tryz.prog 202=some (TypeDesc.pointer 5)) ∧
    (Program.underlying Tryz.prog 203=some (TypeDesc.int IntKind.i32)) ∧
    (Program.underlying Tryz.prog 204=some (TypeDesc.int IntKind.i32)) :=
 ⟨by kernel_rfl,by kernel_rfl,by kernel_rfl,by kernel_rfl,by kernel_rfl,by kernel_rfl,by kernel_rfl,by kernel_rfl,by kernel_rfl,by kernel_rfl,by kernel_rfl,by kernel_rfl,by kernel_rfl,by kernel_rfl,by kernel_rfl,by kernel_rfl,by kernel_rfl,by kernel_rfl,by kernel_rfl,by kernel_rfl,by kernel_rfl,by kernel_rfl,by kernel_rfl,by kernel_rfl,by kernel_rfl,by kernel_rfl,by kernel_rfl,by kernel_rfl,by kernel_rfl,by kernel_rfl,by kernel_rfl,by kernel_rfl,by kernel_rfl,by kernel_rfl,by kernel_rfl,by kernel_rfl,by kernel_rfl,by kernel_rfl,by kernel_rfl,by kernel_rfl,by kernel_rfl,by kernel_rfl,by kernel_rfl,by kernel_rfl,by kernel_rfl,by kernel_rfl,by kernel_rfl,by kernel_rfl⟩
theorem wO {n:Int} (h1:-9223372036854775808≤n:=by omega) (h2:n≤9223372036854775807:=by omega):IntKind.wrap .i64 n=n:=kD h1 h2
theorem nD {p:Prop} [Decidable p]:(!decide p)=decide ¬p:=decide_not.symm
def aR:=aI @goRules (aI @coreRules (aI @tiRules (aI @unRules (aI @AS_of_eq @nD))))
end Go.Proofs
