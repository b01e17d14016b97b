/- Contracts. -/
import Derived.Test.YtmljkoieihaomaaC4C1
namespace Go.Ev.Ytmljkoieihaomaa
set_option linter.unusedVariables false
set_option linter.unusedSimpArgs false
open Go.Ev
/-! Classes that are the same: the other way. -/
theorem meq (a b : SMethod) : decide (a = b) = (decide (a.Flags = b.Flags) && (decide (a.Name = b.Name) && (decide (a.Desc = b.Desc) && (decide (a.Deep = b.Deep) && (decide (a.Locals = b.Locals) && (decide (a.Code = b.Code) && (decide (a.Traps = b.Traps) && decide (a.Frames = b.Frames)))))))) := by
  rw [Bool.eq_iff_iff]; cases a; cases b; simp
end Go.Ev.Ytmljkoieihaomaa
