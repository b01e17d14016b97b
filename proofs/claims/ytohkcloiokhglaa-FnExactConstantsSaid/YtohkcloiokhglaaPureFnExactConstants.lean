/- Proved: the program's constants are the reference's. No condition. -/
import Derived.Test.YtohkcloiokhglaaPFnExactConstantsx1
namespace Go.Proofs.Ytohkcloiokhglaa.Pure
open Go.RowKit Go.Proofs.Ytohkcloiokhglaa.PFnExactConstants Go.Proofs.YtohkcloiokhglaaW.PrintWords Go.Proofs.YtohkcloiokhglaaW.PrintLast

theorem FnExactConstants : laws_FnExactConstants.Pure := by
  show laws_FnExactConstants.f = some true
  rfl

end Go.Proofs.Ytohkcloiokhglaa.Pure
