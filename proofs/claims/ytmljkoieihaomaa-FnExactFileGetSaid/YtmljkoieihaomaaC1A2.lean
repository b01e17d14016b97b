/- Contracts. -/
import Derived.Test.YtmljkoieihaomaaC1A0
namespace Go.Ev.Ytmljkoieihaomaa
set_option linter.unusedVariables false
set_option linter.unusedSimpArgs false
open Go.Ev
theorem c10_4 (a b : List Int) (wa : a.length ≤ 140737488351232) (hlen : a.length = b.length) (H : Heap) : ∀ i, i ≤ a.length → J E 10 4 [.list (a.map rInt), .list (b.map rInt), .int .i64 i] H = some (.bool (decide (a.drop i = b.drop i)), H) := by
  have w1 := wa
  refine loop_up (P := fun i => _) ?_ fun i hi ih => ?_
  · rw [j10_4]
    simp [hlen]
  · have hi' : i < b.length := by omega
    rw [j10_4]
    simp [ia, ld, st, getRow, rowLen, storeRow, part, D.cells, D.isCell, bld, fillC, bsl, fillR, slS, slL, sliceStr, bound, cut0, srcRows, rowsFit, call_pure, call_view, nilCheck, rInt, rStr, rBool, rByte, hi, hi']
    simp (disch := omega) only [wrap_i64]
    rw [drop_dec hi hi']
    by_cases h : a[i] = b[i] <;> simp [h]
    simpa using ih
theorem c10 (a b : List Int) (wa : a.length ≤ 140737488351232) : run E (exec E) false 10 [.list (a.map rInt), .list (b.map rInt)] = some (.bool (decide (a = b))) := by
  rw [run_ent, e10]
  by_cases h : a.length = b.length
  · have := c10_4 a b wa h [] 0 (by omega)
    simp only [Int.natCast_zero] at this
    simp [h, this]
  · have : a ≠ b := fun e => h (by rw [e])
    simp [show ¬ (a.length : Int) = b.length by omega, this]
theorem c86 (a b : SConst) : run E (exec E) false 86 [a.d, b.d] = some (.bool (decide (a = b))) := by
  rw [run_ent, e86]
  obtain ⟨a0, a1, a2, a3⟩ := a
  obtain ⟨b0, b1, b2, b3⟩ := b
  simp [SConst.row, ia, ld, st, getRow, rowLen, storeRow, part, D.cells, D.isCell, bld, fillC, bsl, fillR, slS, slL, sliceStr, bound, cut0, srcRows, rowsFit, call_pure, call_view, nilCheck, rInt, rStr, rBool, rByte]
  by_cases g0 : ¬ a0 = b0
  · simp [g0]
  have g0 := Decidable.not_not.mp g0
  subst g0
  by_cases g1 : ¬ a1 = b1
  · simp [g1]
  have g1 := Decidable.not_not.mp g1
  subst g1
  by_cases g2 : ¬ a2 = b2
  · simp [g2]
  have g2 := Decidable.not_not.mp g2
  subst g2
  by_cases g3 : ¬ a3 = b3
  · simp [g3]
  have g3 := Decidable.not_not.mp g3
  subst g3
  try simp [ia, ld, st, getRow, rowLen, storeRow, part, D.cells, D.isCell, bld, fillC, bsl, fillR, slS, slL, sliceStr, bound, cut0, srcRows, rowsFit, call_pure, call_view, nilCheck, rInt, rStr, rBool, rByte]
theorem c40_4 (a b : List SConst) (wa : a.length ≤ 140737488351232) (hlen : a.length = b.length) (H : Heap) : ∀ i, i ≤ a.length → J E 40 4 [.list (a.map SConst.row), .list (b.map SConst.row), .int .i64 i] H = some (.bool (decide (a.drop i = b.drop i)), H) := by
  have w1 := wa
  refine loop_up (P := fun i => _) ?_ fun i hi ih => ?_
  · rw [j40_4]
    simp [hlen]
  · have hi' : i < b.length := by omega
    rw [j40_4]
    simp [ia, ld, st, getRow, rowLen, storeRow, part, D.cells, D.isCell, bld, fillC, bsl, fillR, slS, slL, sliceStr, bound, cut0, srcRows, rowsFit, call_pure, call_view, nilCheck, rInt, rStr, rBool, rByte, hi, hi']
    rw [c86 a[i] b[i]]
    simp only [Option.bind_some, unOp_not, asB_bool, bI_add]
    simp (disch := omega) only [wrap_i64]
    rw [drop_dec hi hi']
    by_cases h : a[i] = b[i] <;> simp [h]
    simpa using ih
theorem c40 (a b : List SConst) (wa : a.length ≤ 140737488351232) : run E (exec E) false 40 [.list (a.map SConst.row), .list (b.map SConst.row)] = some (.bool (decide (a = b))) := by
  rw [run_ent, e40]
  by_cases h : a.length = b.length
  · have := c40_4 a b wa h [] 0 (by omega)
    simp only [Int.natCast_zero] at this
    simp [h, this]
  · have : a ≠ b := fun e => h (by rw [e])
    simp [show ¬ (a.length : Int) = b.length by omega, this]
theorem c87 (a b : SField) : run E (exec E) false 87 [a.d, b.d] = some (.bool (decide (a = b))) := by
  rw [run_ent, e87]
  obtain ⟨a0, a1, a2⟩ := a
  obtain ⟨b0, b1, b2⟩ := b
  simp [SField.row, ia, ld, st, getRow, rowLen, storeRow, part, D.cells, D.isCell, bld, fillC, bsl, fillR, slS, slL, sliceStr, bound, cut0, srcRows, rowsFit, call_pure, call_view, nilCheck, rInt, rStr, rBool, rByte]
  by_cases g0 : ¬ a0 = b0
  · simp [g0]
  have g0 := Decidable.not_not.mp g0
  subst g0
  by_cases g1 : ¬ a1 = b1
  · simp [g1]
  have g1 := Decidable.not_not.mp g1
  subst g1
  by_cases g2 : ¬ a2 = b2
  · simp [g2]
  have g2 := Decidable.not_not.mp g2
  subst g2
  try simp [ia, ld, st, getRow, rowLen, storeRow, part, D.cells, D.isCell, bld, fillC, bsl, fillR, slS, slL, sliceStr, bound, cut0, srcRows, rowsFit, call_pure, call_view, nilCheck, rInt, rStr, rBool, rByte]
theorem c41_4 (a b : List SField) (wa : a.length ≤ 140737488351232) (hlen : a.length = b.length) (H : Heap) : ∀ i, i ≤ a.length → J E 41 4 [.list (a.map SField.row), .list (b.map SField.row), .int .i64 i] H = some (.bool (decide (a.drop i = b.drop i)), H) := by
  have w1 := wa
  refine loop_up (P := fun i => _) ?_ fun i hi ih => ?_
  · rw [j41_4]
    simp [hlen]
  · have hi' : i < b.length := by omega
    rw [j41_4]
    simp [ia, ld, st, getRow, rowLen, storeRow, part, D.cells, D.isCell, bld, fillC, bsl, fillR, slS, slL, sliceStr, bound, cut0, srcRows, rowsFit, call_pure, call_view, nilCheck, rInt, rStr, rBool, rByte, hi, hi']
    rw [c87 a[i] b[i]]
    simp only [Option.bind_some, unOp_not, asB_bool, bI_add]
    simp (disch := omega) only [wrap_i64]
    rw [drop_dec hi hi']
    by_cases h : a[i] = b[i] <;> simp [h]
    simpa using ih
theorem c41 (a b : List SField) (wa : a.length ≤ 140737488351232) : run E (exec E) false 41 [.list (a.map SField.row), .list (b.map SField.row)] = some (.bool (decide (a = b))) := by
  rw [run_ent, e41]
  by_cases h : a.length = b.length
  · have := c41_4 a b wa h [] 0 (by omega)
    simp only [Int.natCast_zero] at this
    simp [h, this]
  · have : a ≠ b := fun e => h (by rw [e])
    simp [show ¬ (a.length : Int) = b.length by omega, this]
theorem c155 (a b : STrap) : run E (exec E) false 155 [a.d, b.d] = some (.bool (decide (a = b))) := by
  rw [run_ent, e155]
  obtain ⟨a0, a1, a2, a3⟩ := a
  obtain ⟨b0, b1, b2, b3⟩ := b
  simp [STrap.row, ia, ld, st, getRow, rowLen, storeRow, part, D.cells, D.isCell, bld, fillC, bsl, fillR, slS, slL, sliceStr, bound, cut0, srcRows, rowsFit, call_pure, call_view, nilCheck, rInt, rStr, rBool, rByte]
  by_cases g0 : ¬ a0 = b0
  · simp [g0]
  have g0 := Decidable.not_not.mp g0
  subst g0
  by_cases g1 : ¬ a1 = b1
  · simp [g1]
  have g1 := Decidable.not_not.mp g1
  subst g1
  by_cases g2 : ¬ a2 = b2
  · simp [g2]
  have g2 := Decidable.not_not.mp g2
  subst g2
  by_cases g3 : ¬ a3 = b3
  · simp [g3]
  have g3 := Decidable.not_not.mp g3
  subst g3
  try simp [ia, ld, st, getRow, rowLen, storeRow, part, D.cells, D.isCell, bld, fillC, bsl, fillR, slS, slL, sliceStr, bound, cut0, srcRows, rowsFit, call_pure, call_view, nilCheck, rInt, rStr, rBool, rByte]
theorem c132_4 (a b : List STrap) (wa : a.length ≤ 140737488351232) (hlen : a.length = b.length) (H : Heap) : ∀ i, i ≤ a.length → J E 132 4 [.list (a.map STrap.row), .list (b.map STrap.row), .int .i64 i] H = some (.bool (decide (a.drop i = b.drop i)), H) := by
  have w1 := wa
  refine loop_up (P := fun i => _) ?_ fun i hi ih => ?_
  · rw [j132_4]
    simp [hlen]
  · have hi' : i < b.length := by omega
    rw [j132_4]
    simp [ia, ld, st, getRow, rowLen, storeRow, part, D.cells, D.isCell, bld, fillC, bsl, fillR, slS, slL, sliceStr, bound, cut0, srcRows, rowsFit, call_pure, call_view, nilCheck, rInt, rStr, rBool, rByte, hi, hi']
    rw [c155 a[i] b[i]]
    simp only [Option.bind_some, unOp_not, asB_bool, bI_add]
    simp (disch := omega) only [wrap_i64]
    rw [drop_dec hi hi']
    by_cases h : a[i] = b[i] <;> simp [h]
    simpa using ih
theorem c132 (a b : List STrap) (wa : a.length ≤ 140737488351232) : run E (exec E) false 132 [.list (a.map STrap.row), .list (b.map STrap.row)] = some (.bool (decide (a = b))) := by
  rw [run_ent, e132]
  by_cases h : a.length = b.length
  · have := c132_4 a b wa h [] 0 (by omega)
    simp only [Int.natCast_zero] at this
    simp [h, this]
  · have : a ≠ b := fun e => h (by rw [e])
    simp [show ¬ (a.length : Int) = b.length by omega, this]
theorem c165 (a b : SKind) : run E (exec E) false 165 [a.d, b.d] = some (.bool (decide (a = b))) := by
  rw [run_ent, e165]
  obtain ⟨a0, a1⟩ := a
  obtain ⟨b0, b1⟩ := b
  simp [SKind.row, ia, ld, st, getRow, rowLen, storeRow, part, D.cells, D.isCell, bld, fillC, bsl, fillR, slS, slL, sliceStr, bound, cut0, srcRows, rowsFit, call_pure, call_view, nilCheck, rInt, rStr, rBool, rByte]
  by_cases g0 : ¬ a0 = b0
  · simp [g0]
  have g0 := Decidable.not_not.mp g0
  subst g0
  by_cases g1 : ¬ a1 = b1
  · simp [g1]
  have g1 := Decidable.not_not.mp g1
  subst g1
  try simp [ia, ld, st, getRow, rowLen, storeRow, part, D.cells, D.isCell, bld, fillC, bsl, fillR, slS, slL, sliceStr, bound, cut0, srcRows, rowsFit, call_pure, call_view, nilCheck, rInt, rStr, rBool, rByte]
theorem c162_4 (a b : List SKind) (wa : a.length ≤ 140737488351232) (hlen : a.length = b.length) (H : Heap) : ∀ i, i ≤ a.length → J E 162 4 [.list (a.map SKind.row), .list (b.map SKind.row), .int .i64 i] H = some (.bool (decide (a.drop i = b.drop i)), H) := by
  have w1 := wa
  refine loop_up (P := fun i => _) ?_ fun i hi ih => ?_
  · rw [j162_4]
    simp [hlen]
  · have hi' : i < b.length := by omega
    rw [j162_4]
    simp [ia, ld, st, getRow, rowLen, storeRow, part, D.cells, D.isCell, bld, fillC, bsl, fillR, slS, slL, sliceStr, bound, cut0, srcRows, rowsFit, call_pure, call_view, nilCheck, rInt, rStr, rBool, rByte, hi, hi']
    rw [c165 a[i] b[i]]
    simp only [Option.bind_some, unOp_not, asB_bool, bI_add]
    simp (disch := omega) only [wrap_i64]
    rw [drop_dec hi hi']
    by_cases h : a[i] = b[i] <;> simp [h]
    simpa using ih
theorem c162 (a b : List SKind) (wa : a.length ≤ 140737488351232) : run E (exec E) false 162 [.list (a.map SKind.row), .list (b.map SKind.row)] = some (.bool (decide (a = b))) := by
  rw [run_ent, e162]
  by_cases h : a.length = b.length
  · have := c162_4 a b wa h [] 0 (by omega)
    simp only [Int.natCast_zero] at this
    simp [h, this]
  · have : a ≠ b := fun e => h (by rw [e])
    simp [show ¬ (a.length : Int) = b.length by omega, this]
theorem c156 (a b : SFrame) (ha : a.fit) (hb : b.fit) : run E (exec E) false 156 [a.d, b.d] = some (.bool (decide (a = b))) := by
  rw [run_ent, e156]
  obtain ⟨a0, a1, a2⟩ := a
  obtain ⟨b0, b1, b2⟩ := b
  simp only [SFrame.fit] at ha hb
  simp [SFrame.row, ia, ld, st, getRow, rowLen, storeRow, part, D.cells, D.isCell, bld, fillC, bsl, fillR, slS, slL, sliceStr, bound, cut0, srcRows, rowsFit, call_pure, call_view, nilCheck, rInt, rStr, rBool, rByte]
  by_cases g0 : ¬ a0 = b0
  · simp [g0]
  have g0 := Decidable.not_not.mp g0
  subst g0
  rw [c162 a1 b1 (by simp_all)]
  simp only [Option.bind_some, unOp_not, asB_bool]
  by_cases g1 : ¬ a1 = b1
  · simp [g1]
  have g1 := Decidable.not_not.mp g1
  subst g1
  simp [ia, ld, st, getRow, rowLen, storeRow, part, D.cells, D.isCell, bld, fillC, bsl, fillR, slS, slL, sliceStr, bound, cut0, srcRows, rowsFit, call_pure, call_view, nilCheck, rInt, rStr, rBool, rByte]
  rw [c162 a2 b2 (by simp_all)]
  simp only [Option.bind_some, unOp_not, asB_bool]
  by_cases g2 : ¬ a2 = b2
  · simp [g2]
  have g2 := Decidable.not_not.mp g2
  subst g2
  simp [ia, ld, st, getRow, rowLen, storeRow, part, D.cells, D.isCell, bld, fillC, bsl, fillR, slS, slL, sliceStr, bound, cut0, srcRows, rowsFit, call_pure, call_view, nilCheck, rInt, rStr, rBool, rByte]
  try simp [ia, ld, st, getRow, rowLen, storeRow, part, D.cells, D.isCell, bld, fillC, bsl, fillR, slS, slL, sliceStr, bound, cut0, srcRows, rowsFit, call_pure, call_view, nilCheck, rInt, rStr, rBool, rByte]
theorem c133_4 (a b : List SFrame) (wa : a.length ≤ 140737488351232 ∧ ∀ z ∈ a, z.fit) (wb : b.length ≤ 140737488351232 ∧ ∀ z ∈ b, z.fit) (hlen : a.length = b.length) (H : Heap) : ∀ i, i ≤ a.length → J E 133 4 [.list (a.map SFrame.row), .list (b.map SFrame.row), .int .i64 i] H = some (.bool (decide (a.drop i = b.drop i)), H) := by
  have w1 := wa.1
  refine loop_up (P := fun i => _) ?_ fun i hi ih => ?_
  · rw [j133_4]
    simp [hlen]
  · have hi' : i < b.length := by omega
    rw [j133_4]
    simp [ia, ld, st, getRow, rowLen, storeRow, part, D.cells, D.isCell, bld, fillC, bsl, fillR, slS, slL, sliceStr, bound, cut0, srcRows, rowsFit, call_pure, call_view, nilCheck, rInt, rStr, rBool, rByte, hi, hi']
    rw [c156 a[i] b[i] (wa.2 _ (List.getElem_mem hi)) (wb.2 _ (List.getElem_mem hi'))]
    simp only [Option.bind_some, unOp_not, asB_bool, bI_add]
    simp (disch := omega) only [wrap_i64]
    rw [drop_dec hi hi']
    by_cases h : a[i] = b[i] <;> simp [h]
    simpa using ih
theorem c133 (a b : List SFrame) (wa : a.length ≤ 140737488351232 ∧ ∀ z ∈ a, z.fit) (wb : b.length ≤ 140737488351232 ∧ ∀ z ∈ b, z.fit) : run E (exec E) false 133 [.list (a.map SFrame.row), .list (b.map SFrame.row)] = some (.bool (decide (a = b))) := by
  rw [run_ent, e133]
  by_cases h : a.length = b.length
  · have := c133_4 a b wa wb h [] 0 (by omega)
    simp only [Int.natCast_zero] at this
    simp [h, this]
  · have : a ≠ b := fun e => h (by rw [e])
    simp [show ¬ (a.length : Int) = b.length by omega, this]
theorem c88 (a b : SMethod) (ha : a.fit) (hb : b.fit) : run E (exec E) false 88 [a.d, b.d] = some (.bool (decide (a = b))) := by
  rw [run_ent, e88]
  obtain ⟨a0, a1, a2, a3, a4, a5, a6, a7⟩ := a
  obtain ⟨b0, b1, b2, b3, b4, b5, b6, b7⟩ := b
  simp only [SMethod.fit] at ha hb
  simp [SMethod.row, ia, ld, st, getRow, rowLen, storeRow, part, D.cells, D.isCell, bld, fillC, bsl, fillR, slS, slL, sliceStr, bound, cut0, srcRows, rowsFit, call_pure, call_view, nilCheck, rInt, rStr, rBool, rByte]
  by_cases g0 : ¬ a0 = b0
  · simp [g0]
  have g0 := Decidable.not_not.mp g0
  subst g0
  by_cases g1 : ¬ a1 = b1
  · simp [g1]
  have g1 := Decidable.not_not.mp g1
  subst g1
  by_cases g2 : ¬ a2 = b2
  · simp [g2]
  have g2 := Decidable.not_not.mp g2
  subst g2
  by_cases g3 : ¬ a3 = b3
  · simp [g3]
  have g3 := Decidable.not_not.mp g3
  subst g3
  by_cases g4 : ¬ a4 = b4
  · simp [g4]
  have g4 := Decidable.not_not.mp g4
  subst g4
  by_cases g5 : ¬ a5 = b5
  · simp [g5]
  have g5 := Decidable.not_not.mp g5
  subst g5
  rw [c132 a6 b6 (by simp_all)]
  simp only [Option.bind_some, unOp_not, asB_bool]
  by_cases g6 : ¬ a6 = b6
  · simp [g6]
  have g6 := Decidable.not_not.mp g6
  subst g6
  simp [ia, ld, st, getRow, rowLen, storeRow, part, D.cells, D.isCell, bld, fillC, bsl, fillR, slS, slL, sliceStr, bound, cut0, srcRows, rowsFit, call_pure, call_view, nilCheck, rInt, rStr, rBool, rByte]
  rw [c133 a7 b7 (by simp_all) (by simp_all)]
  simp only [Option.bind_some, unOp_not, asB_bool]
  by_cases g7 : ¬ a7 = b7
  · simp [g7]
  have g7 := Decidable.not_not.mp g7
  subst g7
  simp [ia, ld, st, getRow, rowLen, storeRow, part, D.cells, D.isCell, bld, fillC, bsl, fillR, slS, slL, sliceStr, bound, cut0, srcRows, rowsFit, call_pure, call_view, nilCheck, rInt, rStr, rBool, rByte]
  try simp [ia, ld, st, getRow, rowLen, storeRow, part, D.cells, D.isCell, bld, fillC, bsl, fillR, slS, slL, sliceStr, bound, cut0, srcRows, rowsFit, call_pure, call_view, nilCheck, rInt, rStr, rBool, rByte]
theorem c42_4 (a b : List SMethod) (wa : a.length ≤ 140737488351232 ∧ ∀ z ∈ a, z.fit) (wb : b.length ≤ 140737488351232 ∧ ∀ z ∈ b, z.fit) (hlen : a.length = b.length) (H : Heap) : ∀ i, i ≤ a.length → J E 42 4 [.list (a.map SMethod.row), .list (b.map SMethod.row), .int .i64 i] H = some (.bool (decide (a.drop i = b.drop i)), H) := by
  have w1 := wa.1
  refine loop_up (P := fun i => _) ?_ fun i hi ih => ?_
  · rw [j42_4]
    simp [hlen]
  · have hi' : i < b.length := by omega
    rw [j42_4]
    simp [ia, ld, st, getRow, rowLen, storeRow, part, D.cells, D.isCell, bld, fillC, bsl, fillR, slS, slL, sliceStr, bound, cut0, srcRows, rowsFit, call_pure, call_view, nilCheck, rInt, rStr, rBool, rByte, hi, hi']
    rw [c88 a[i] b[i] (wa.2 _ (List.getElem_mem hi)) (wb.2 _ (List.getElem_mem hi'))]
    simp only [Option.bind_some, unOp_not, asB_bool, bI_add]
    simp (disch := omega) only [wrap_i64]
    rw [drop_dec hi hi']
    by_cases h : a[i] = b[i] <;> simp [h]
    simpa using ih
theorem c42 (a b : List SMethod) (wa : a.length ≤ 140737488351232 ∧ ∀ z ∈ a, z.fit) (wb : b.length ≤ 140737488351232 ∧ ∀ z ∈ b, z.fit) : run E (exec E) false 42 [.list (a.map SMethod.row), .list (b.map SMethod.row)] = some (.bool (decide (a = b))) := by
  rw [run_ent, e42]
  by_cases h : a.length = b.length
  · have := c42_4 a b wa wb h [] 0 (by omega)
    simp only [Int.natCast_zero] at this
    simp [h, this]
  · have : a ≠ b := fun e => h (by rw [e])
    simp [show ¬ (a.length : Int) = b.length by omega, this]
theorem c17 (a b : SClass) (ha : a.fit) (hb : b.fit) : run E (exec E) false 17 [a.d, b.d] = some (.bool (decide (a = b))) := by
  rw [run_ent, e17]
  obtain ⟨a0, a1, a2, a3, a4, a5, a6⟩ := a
  obtain ⟨b0, b1, b2, b3, b4, b5, b6⟩ := b
  simp only [SClass.fit] at ha hb
  simp [SClass.row, ia, ld, st, getRow, rowLen, storeRow, part, D.cells, D.isCell, bld, fillC, bsl, fillR, slS, slL, sliceStr, bound, cut0, srcRows, rowsFit, call_pure, call_view, nilCheck, rInt, rStr, rBool, rByte]
  rw [c40 a0 b0 (by simp_all)]
  simp only [Option.bind_some, unOp_not, asB_bool]
  by_cases g0 : ¬ a0 = b0
  · simp [g0]
  have g0 := Decidable.not_not.mp g0
  subst g0
  simp [ia, ld, st, getRow, rowLen, storeRow, part, D.cells, D.isCell, bld, fillC, bsl, fillR, slS, slL, sliceStr, bound, cut0, srcRows, rowsFit, call_pure, call_view, nilCheck, rInt, rStr, rBool, rByte]
  by_cases g1 : ¬ a1 = b1
  · simp [g1]
  have g1 := Decidable.not_not.mp g1
  subst g1
  by_cases g2 : ¬ a2 = b2
  · simp [g2]
  have g2 := Decidable.not_not.mp g2
  subst g2
  by_cases g3 : ¬ a3 = b3
  · simp [g3]
  have g3 := Decidable.not_not.mp g3
  subst g3
  rw [c10 a4 b4 (by simp_all)]
  simp only [Option.bind_some, unOp_not, asB_bool]
  by_cases g4 : ¬ a4 = b4
  · simp [g4]
  have g4 := Decidable.not_not.mp g4
  subst g4
  simp [ia, ld, st, getRow, rowLen, storeRow, part, D.cells, D.isCell, bld, fillC, bsl, fillR, slS, slL, sliceStr, bound, cut0, srcRows, rowsFit, call_pure, call_view, nilCheck, rInt, rStr, rBool, rByte]
  rw [c41 a5 b5 (by simp_all)]
  simp only [Option.bind_some, unOp_not, asB_bool]
  by_cases g5 : ¬ a5 = b5
  · simp [g5]
  have g5 := Decidable.not_not.mp g5
  subst g5
  simp [ia, ld, st, getRow, rowLen, storeRow, part, D.cells, D.isCell, bld, fillC, bsl, fillR, slS, slL, sliceStr, bound, cut0, srcRows, rowsFit, call_pure, call_view, nilCheck, rInt, rStr, rBool, rByte]
  rw [c42 a6 b6 (by simp_all) (by simp_all)]
  simp only [Option.bind_some, unOp_not, asB_bool]
  by_cases g6 : ¬ a6 = b6
  · simp [g6]
  have g6 := Decidable.not_not.mp g6
  subst g6
  simp [ia, ld, st, getRow, rowLen, storeRow, part, D.cells, D.isCell, bld, fillC, bsl, fillR, slS, slL, sliceStr, bound, cut0, srcRows, rowsFit, call_pure, call_view, nilCheck, rInt, rStr, rBool, rByte]
  try simp [ia, ld, st, getRow, rowLen, storeRow, part, D.cells, D.isCell, bld, fillC, bsl, fillR, slS, slL, sliceStr, bound, cut0, srcRows, rowsFit, call_pure, call_view, nilCheck, rInt, rStr, rBool, rByte]
end Go.Ev.Ytmljkoieihaomaa
