/- Contracts. -/
import Derived.Test.YtmljkoieihaomaaC0M2
namespace Go.Ev.Ytmljkoieihaomaa
set_option linter.unusedVariables false
set_option linter.unusedSimpArgs false
open Go.Ev

end Go.Ev.Ytmljkoieihaomaa
