/- Contracts. -/
import Derived.Test.YtmljkoieihaomaaC1A3
namespace Go.Ev.Ytmljkoieihaomaa
set_option linter.unusedVariables false
set_option linter.unusedSimpArgs false
open Go.Ev
theorem cBS_one (H : Heap) (c : UInt8) (K : Heap) (b : Nat) (h : getBlk H b = some [[.int .u8 c.toNat]]) : cBS H (.sl b 0 1) = some (.str [c], H) := by
  simp [cBS, srcRows, h, rowsFit, optAll, byteOf]
end Go.Ev.Ytmljkoieihaomaa
