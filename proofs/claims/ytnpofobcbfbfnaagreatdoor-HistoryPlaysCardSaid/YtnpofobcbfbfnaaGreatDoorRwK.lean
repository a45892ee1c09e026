/-
 slices.SortFunc at a live slice of structs,by their first cell. Proved over any program.
-/
import Derived.Test.YtnpofobcbfbfnaaGreatDoorRwE
import Derived.Shelf.SlSortCmp.WholeK
import Derived.Shelf.SlSortCmp.NoneTotal
set_option linter.unusedSimpArgs false
set_option linter.unusedVariables false
set_option linter.unusedSectionVars false

-- RwSort
namespace Go.Rw
open Go Go.RowKit Go.Proofs Go.Shelf Go.Sort
structure El (G:Gh) (w:World) (s:Nat) (kx:AV→Int) where
 vs:List Value
 z:AV
 len:vs.length=s
 one:∀ v∈vs,v.oneCell'=true
 zl:z.cells.length=s
 zc:z.er=z
 key:vs.getD 0 default = .int .i64 (kx z)
 rel:∀ j,j < s→VR G w (vs.getD j default) (z.cells.getD j .any)
section
variable {P:Program} {ρ:Ren} {G:Gh} {w:World}
end
section
variable {P:Program} {ρ:Ren} [Tabs] {σ:AS} {d:Option Nat} {K:AS→Prop}
end
end Go.Rw
