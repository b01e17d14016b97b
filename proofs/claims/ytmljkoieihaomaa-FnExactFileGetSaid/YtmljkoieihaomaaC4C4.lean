/- Contracts. -/
import Derived.Test.YtmljkoieihaomaaC4C3
namespace Go.Ev.Ytmljkoieihaomaa
set_option linter.unusedVariables false
set_option linter.unusedSimpArgs false
open Go.Ev
/-! Writing a file: the program's way. -/
section
def mTailI (m : SMethod) : List UInt8 := pOne m.Frames.length ++ m.Frames.flatMap (pFrame pTwo)
end

end Go.Ev.Ytmljkoieihaomaa
