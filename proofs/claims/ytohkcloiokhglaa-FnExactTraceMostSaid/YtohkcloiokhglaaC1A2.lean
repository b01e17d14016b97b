/- Contracts. -/
import Derived.Test.YtohkcloiokhglaaC1A0
namespace Go.Ev.Ytohkcloiokhglaa
set_option linter.unusedVariables false
set_option linter.unusedSimpArgs false
open Go.Ev
theorem c28_4 (a b : List Int) (wa : a.length ≤ 140737488351232) (hlen : a.length = b.length) (H : Heap) : ∀ i, i ≤ a.length → J E 28 4 [.list (a.map rInt), .list (b.map rInt), .int .i64 i] H = some (.bool (decide (a.drop i = b.drop i)), H) := by
  have w1 := wa
  refine loop_up (P := fun i => _) ?_ fun i hi ih => ?_
  · rw [j28_4]
    simp [hlen]
  · have hi' : i < b.length := by omega
    rw [j28_4]
    simp [ia, ld, st, getRow, rowLen, storeRow, part, D.cells, D.isCell, bld, fillC, bsl, fillR, slS, slL, sliceStr, bound, cut0, srcRows, rowsFit, call_pure, call_view, nilCheck, rInt, rStr, rBool, rByte, hi, hi']
    simp (disch := omega) only [wrap_i64]
    rw [drop_dec hi hi']
    by_cases h : a[i] = b[i] <;> simp [h]
    simpa using ih
theorem c28 (a b : List Int) (wa : a.length ≤ 140737488351232) : run E (exec E) false 28 [.list (a.map rInt), .list (b.map rInt)] = some (.bool (decide (a = b))) := by
  rw [run_ent, e28]
  by_cases h : a.length = b.length
  · have := c28_4 a b wa h [] 0 (by omega)
    simp only [Int.natCast_zero] at this
    simp [h, this]
  · have : a ≠ b := fun e => h (by rw [e])
    simp [show ¬ (a.length : Int) = b.length by omega, this]
theorem c68 (a b : SLine) : run E (exec E) false 68 [a.d, b.d] = some (.bool (decide (a = b))) := by
  rw [run_ent, e68]
  obtain ⟨a0, a1, a2, a3, a4, a5⟩ := a
  obtain ⟨b0, b1, b2, b3, b4, b5⟩ := b
  simp [SLine.row, ia, ld, st, getRow, rowLen, storeRow, part, D.cells, D.isCell, bld, fillC, bsl, fillR, slS, slL, sliceStr, bound, cut0, srcRows, rowsFit, call_pure, call_view, nilCheck, rInt, rStr, rBool, rByte]
  by_cases g0 : ¬ a0 = b0
  · simp [g0]
  have g0 := Decidable.not_not.mp g0
  subst g0
  by_cases g1 : ¬ a1 = b1
  · simp [g1]
  have g1 := Decidable.not_not.mp g1
  subst g1
  by_cases g2 : ¬ a2 = b2
  · simp [g2]
  have g2 := Decidable.not_not.mp g2
  subst g2
  by_cases g3 : ¬ a3 = b3
  · simp [g3]
  have g3 := Decidable.not_not.mp g3
  subst g3
  by_cases g4 : ¬ a4 = b4
  · simp [g4]
  have g4 := Decidable.not_not.mp g4
  subst g4
  by_cases g5 : ¬ a5 = b5
  · simp [g5]
  have g5 := Decidable.not_not.mp g5
  subst g5
  try simp [ia, ld, st, getRow, rowLen, storeRow, part, D.cells, D.isCell, bld, fillC, bsl, fillR, slS, slL, sliceStr, bound, cut0, srcRows, rowsFit, call_pure, call_view, nilCheck, rInt, rStr, rBool, rByte]
theorem c29_4 (a b : List SLine) (wa : a.length ≤ 140737488351232) (hlen : a.length = b.length) (H : Heap) : ∀ i, i ≤ a.length → J E 29 4 [.list (a.map SLine.row), .list (b.map SLine.row), .int .i64 i] H = some (.bool (decide (a.drop i = b.drop i)), H) := by
  have w1 := wa
  refine loop_up (P := fun i => _) ?_ fun i hi ih => ?_
  · rw [j29_4]
    simp [hlen]
  · have hi' : i < b.length := by omega
    rw [j29_4]
    simp [ia, ld, st, getRow, rowLen, storeRow, part, D.cells, D.isCell, bld, fillC, bsl, fillR, slS, slL, sliceStr, bound, cut0, srcRows, rowsFit, call_pure, call_view, nilCheck, rInt, rStr, rBool, rByte, hi, hi']
    rw [c68 a[i] b[i]]
    simp only [Option.bind_some, unOp_not, asB_bool, bI_add]
    simp (disch := omega) only [wrap_i64]
    rw [drop_dec hi hi']
    by_cases h : a[i] = b[i] <;> simp [h]
    simpa using ih
theorem c29 (a b : List SLine) (wa : a.length ≤ 140737488351232) : run E (exec E) false 29 [.list (a.map SLine.row), .list (b.map SLine.row)] = some (.bool (decide (a = b))) := by
  rw [run_ent, e29]
  by_cases h : a.length = b.length
  · have := c29_4 a b wa h [] 0 (by omega)
    simp only [Int.natCast_zero] at this
    simp [h, this]
  · have : a ≠ b := fun e => h (by rw [e])
    simp [show ¬ (a.length : Int) = b.length by omega, this]
end Go.Ev.Ytohkcloiokhglaa
