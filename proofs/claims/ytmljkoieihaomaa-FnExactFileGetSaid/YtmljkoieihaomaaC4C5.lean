/- Contracts. -/
import Derived.Test.YtmljkoieihaomaaC4C4
namespace Go.Ev.Ytmljkoieihaomaa
set_option linter.unusedVariables false
set_option linter.unusedSimpArgs false
open Go.Ev
/-! Writing a file: the program's way, the class. -/
def cI21 (c : SClass) : List UInt8 := pOne c.Methods.length ++ c.Methods.flatMap (pMethod pTwo isAbs)
def cI15 (c : SClass) : List UInt8 := pOne c.Fields.length ++ c.Fields.flatMap (pField pTwo) ++ cI21 c
def cI3 (c : SClass) : List UInt8 := pOne c.Flags ++ pTwo c.Name ++ pTwo c.Super ++ pOne c.Faces.length ++ c.Faces.flatMap pTwo ++ cI15 c
theorem pClass_partsI (c : SClass) : pClass pTwo isAbs c = stow ++ pOne c.Pool.length ++ c.Pool.flatMap (pConst pTwo) ++ cI3 c := by
  simp [pClass, cI3, cI15, cI21]
end Go.Ev.Ytmljkoieihaomaa
