/- The evaluator's tables are the program's. -/
import Derived.Test.YtohkcloiokhglaaEn
import Derived.Test.YtohkcloiokhglaaZz
namespace Go.Ev.Ytohkcloiokhglaa
set_option linter.unusedVariables false
set_option maxRecDepth 100000
theorem tyOk (t : TypeId) (y : Ty) (h : tyT t = some y) : tyOf Go.Proofs.Try.prog t = some y := by
  unfold tyT at h
  exact (tr_node (tr_node (tr_node (tr_leaf (Q := fun t y => tyOf Go.Proofs.Try.prog t = some y) (by kernel_rfl)) (tr_leaf (Q := fun t y => tyOf Go.Proofs.Try.prog t = some y) (by kernel_rfl))) (tr_node (tr_leaf (Q := fun t y => tyOf Go.Proofs.Try.prog t = some y) (by kernel_rfl)) (tr_node (tr_leaf (Q := fun t y => tyOf Go.Proofs.Try.prog t = some y) (by kernel_rfl)) (tr_leaf (Q := fun t y => tyOf Go.Proofs.Try.prog t = some y) (by kernel_rfl))))) (tr_node (tr_node (tr_leaf (Q := fun t y => tyOf Go.Proofs.Try.prog t = some y) (by kernel_rfl)) (tr_node (tr_leaf (Q := fun t y => tyOf Go.Proofs.Try.prog t = some y) (by kernel_rfl)) (tr_leaf (Q := fun t y => tyOf Go.Proofs.Try.prog t = some y) (by kernel_rfl)))) (tr_node (tr_leaf (Q := fun t y => tyOf Go.Proofs.Try.prog t = some y) (by kernel_rfl)) (tr_node (tr_leaf (Q := fun t y => tyOf Go.Proofs.Try.prog t = some y) (by kernel_rfl)) (tr_leaf (Q := fun t y => tyOf Go.Proofs.Try.prog t = some y) (by kernel_rfl))))) : _ → _) h
theorem codeOk (f : FuncId) (fn : Func) (h : codeT f = some fn) : Go.Proofs.Try.prog.funcs[f]? = some fn ∧ codeChk (ntT f) fn = true := by
  unfold codeT at h
  exact (tr_node (tr_node (tr_node (tr_node (tr_leaf (Q := fun f fn => Go.Proofs.Try.prog.funcs[f]? = some fn ∧ codeChk (ntT f) fn = true) ⟨Go.Proofs.Try.func7, by kernel_rfl⟩) (tr_leaf (Q := fun f fn => Go.Proofs.Try.prog.funcs[f]? = some fn ∧ codeChk (ntT f) fn = true) ⟨Go.Proofs.Try.func24, by kernel_rfl⟩)) (tr_node (tr_leaf (Q := fun f fn => Go.Proofs.Try.prog.funcs[f]? = some fn ∧ codeChk (ntT f) fn = true) ⟨Go.Proofs.Try.func25, by kernel_rfl⟩) (tr_leaf (Q := fun f fn => Go.Proofs.Try.prog.funcs[f]? = some fn ∧ codeChk (ntT f) fn = true) ⟨Go.Proofs.Try.func26, by kernel_rfl⟩))) (tr_node (tr_node (tr_leaf (Q := fun f fn => Go.Proofs.Try.prog.funcs[f]? = some fn ∧ codeChk (ntT f) fn = true) ⟨Go.Proofs.Try.func27, by kernel_rfl⟩) (tr_leaf (Q := fun f fn => Go.Proofs.Try.prog.funcs[f]? = some fn ∧ codeChk (ntT f) fn = true) ⟨Go.Proofs.Try.func28, by kernel_rfl⟩)) (tr_node (tr_leaf (Q := fun f fn => Go.Proofs.Try.prog.funcs[f]? = some fn ∧ codeChk (ntT f) fn = true) ⟨Go.Proofs.Try.func29, by kernel_rfl⟩) (tr_leaf (Q := fun f fn => Go.Proofs.Try.prog.funcs[f]? = some fn ∧ codeChk (ntT f) fn = true) ⟨Go.Proofs.Try.func30, by kernel_rfl⟩)))) (tr_node (tr_node (tr_node (tr_leaf (Q := fun f fn => Go.Proofs.Try.prog.funcs[f]? = some fn ∧ codeChk (ntT f) fn = true) ⟨Go.Proofs.Try.func31, by kernel_rfl⟩) (tr_leaf (Q := fun f fn => Go.Proofs.Try.prog.funcs[f]? = some fn ∧ codeChk (ntT f) fn = true) ⟨Go.Proofs.Try.func32, by kernel_rfl⟩)) (tr_node (tr_leaf (Q := fun f fn => Go.Proofs.Try.prog.funcs[f]? = some fn ∧ codeChk (ntT f) fn = true) ⟨Go.Proofs.Try.func58, by kernel_rfl⟩) (tr_leaf (Q := fun f fn => Go.Proofs.Try.prog.funcs[f]? = some fn ∧ codeChk (ntT f) fn = true) ⟨Go.Proofs.Try.func64, by kernel_rfl⟩))) (tr_node (tr_node (tr_leaf (Q := fun f fn => Go.Proofs.Try.prog.funcs[f]? = some fn ∧ codeChk (ntT f) fn = true) ⟨Go.Proofs.Try.func65, by kernel_rfl⟩) (tr_leaf (Q := fun f fn => Go.Proofs.Try.prog.funcs[f]? = some fn ∧ codeChk (ntT f) fn = true) ⟨Go.Proofs.Try.func66, by kernel_rfl⟩)) (tr_node (tr_leaf (Q := fun f fn => Go.Proofs.Try.prog.funcs[f]? = some fn ∧ codeChk (ntT f) fn = true) ⟨Go.Proofs.Try.func67, by kernel_rfl⟩) (tr_node (tr_leaf (Q := fun f fn => Go.Proofs.Try.prog.funcs[f]? = some fn ∧ codeChk (ntT f) fn = true) ⟨Go.Proofs.Try.func68, by kernel_rfl⟩) (tr_leaf (Q := fun f fn => Go.Proofs.Try.prog.funcs[f]? = some fn ∧ codeChk (ntT f) fn = true) ⟨Go.Proofs.Try.func69, by kernel_rfl⟩))))) : _ → _) h
theorem envOk : EnvOk E Go.Proofs.Try.prog := ⟨fun t y h => tyOk t y h, fun f fn h => ⟨(codeOk f fn h).1, codeChk_spec (codeOk f fn h).2⟩, by kernel_rfl⟩
theorem extOk : ExtOk E Go.Proofs.Try.prog := by
  refine ext_ok fun g ts t h => ?_
  by_cases h128 : g = 128
  · subst h128
    exact ext_indexByteString Go.Proofs.Try.func128 (by kernel_rfl) (by kernel_rfl) (by kernel_rfl) (by kernel_rfl)
  have : E.ext g ts = none := by
    show extT g ts = none
    unfold extT
    simp [show Nat.beq g 128 = false from (by cases e : Nat.beq g 128 with | false => rfl | true => exact absurd (Nat.eq_of_beq_eq_true e) h128)]
  rw [this] at h; cases h
end Go.Ev.Ytohkcloiokhglaa
