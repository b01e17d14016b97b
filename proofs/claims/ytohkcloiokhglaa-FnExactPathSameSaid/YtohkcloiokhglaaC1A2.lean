/- Contracts. -/
import Derived.Test.YtohkcloiokhglaaC1A0
namespace Go.Ev.Ytohkcloiokhglaa
set_option linter.unusedVariables false
set_option linter.unusedSimpArgs false
open Go.Ev
theorem c28_4 (a b : List Int) (wa : a.length ≤ 140737488351232) (hlen : a.length = b.length) (H : Heap) : ∀ i, i ≤ a.length → J E 28 4 [.list (a.map rInt), .list (b.map rInt), .int .i64 i] H = some (.bool (decide (a.drop i = b.drop i)), H) := by
  have w1 := wa
  refine loop_up (P := fun i => _) ?_ fun i hi ih => ?_
  · rw [j28_4]
    simp [hlen]
  · have hi' : i < b.length := by omega
    rw [j28_4]
    simp [ia, ld, st, getRow, rowLen, storeRow, part, D.cells, D.isCell, bld, fillC, bsl, fillR, slS, slL, sliceStr, bound, cut0, srcRows, rowsFit, call_pure, call_view, nilCheck, rInt, rStr, rBool, rByte, hi, hi']
    simp (disch := omega) only [wrap_i64]
    rw [drop_dec hi hi']
    by_cases h : a[i] = b[i] <;> simp [h]
    simpa using ih
theorem c28 (a b : List Int) (wa : a.length ≤ 140737488351232) : run E (exec E) false 28 [.list (a.map rInt), .list (b.map rInt)] = some (.bool (decide (a = b))) := by
  rw [run_ent, e28]
  by_cases h : a.length = b.length
  · have := c28_4 a b wa h [] 0 (by omega)
    simp only [Int.natCast_zero] at this
    simp [h, this]
  · have : a ≠ b := fun e => h (by rw [e])
    simp [show ¬ (a.length : Int) = b.length by omega, this]
theorem c41_4 (a b : List (List UInt8)) (wa : a.length ≤ 140737488351232) (hlen : a.length = b.length) (H : Heap) : ∀ i, i ≤ a.length → J E 41 4 [.list (a.map rStr), .list (b.map rStr), .int .i64 i] H = some (.bool (decide (a.drop i = b.drop i)), H) := by
  have w1 := wa
  refine loop_up (P := fun i => _) ?_ fun i hi ih => ?_
  · rw [j41_4]
    simp [hlen]
  · have hi' : i < b.length := by omega
    rw [j41_4]
    simp [ia, ld, st, getRow, rowLen, storeRow, part, D.cells, D.isCell, bld, fillC, bsl, fillR, slS, slL, sliceStr, bound, cut0, srcRows, rowsFit, call_pure, call_view, nilCheck, rInt, rStr, rBool, rByte, hi, hi']
    simp (disch := omega) only [wrap_i64]
    rw [drop_dec hi hi']
    by_cases h : a[i] = b[i] <;> simp [h]
    simpa using ih
theorem c41 (a b : List (List UInt8)) (wa : a.length ≤ 140737488351232) : run E (exec E) false 41 [.list (a.map rStr), .list (b.map rStr)] = some (.bool (decide (a = b))) := by
  rw [run_ent, e41]
  by_cases h : a.length = b.length
  · have := c41_4 a b wa h [] 0 (by omega)
    simp only [Int.natCast_zero] at this
    simp [h, this]
  · have : a ≠ b := fun e => h (by rw [e])
    simp [show ¬ (a.length : Int) = b.length by omega, this]
theorem c93 (a b : SConst) : run E (exec E) false 93 [a.d, b.d] = some (.bool (decide (a = b))) := by
  rw [run_ent, e93]
  obtain ⟨a0, a1, a2, a3⟩ := a
  obtain ⟨b0, b1, b2, b3⟩ := b
  simp [SConst.row, ia, ld, st, getRow, rowLen, storeRow, part, D.cells, D.isCell, bld, fillC, bsl, fillR, slS, slL, sliceStr, bound, cut0, srcRows, rowsFit, call_pure, call_view, nilCheck, rInt, rStr, rBool, rByte]
  by_cases g0 : ¬ a0 = b0
  · simp [g0]
  have g0 := Decidable.not_not.mp g0
  subst g0
  by_cases g1 : ¬ a1 = b1
  · simp [g1]
  have g1 := Decidable.not_not.mp g1
  subst g1
  by_cases g2 : ¬ a2 = b2
  · simp [g2]
  have g2 := Decidable.not_not.mp g2
  subst g2
  by_cases g3 : ¬ a3 = b3
  · simp [g3]
  have g3 := Decidable.not_not.mp g3
  subst g3
  try simp [ia, ld, st, getRow, rowLen, storeRow, part, D.cells, D.isCell, bld, fillC, bsl, fillR, slS, slL, sliceStr, bound, cut0, srcRows, rowsFit, call_pure, call_view, nilCheck, rInt, rStr, rBool, rByte]
theorem c56_4 (a b : List SConst) (wa : a.length ≤ 140737488351232) (hlen : a.length = b.length) (H : Heap) : ∀ i, i ≤ a.length → J E 56 4 [.list (a.map SConst.row), .list (b.map SConst.row), .int .i64 i] H = some (.bool (decide (a.drop i = b.drop i)), H) := by
  have w1 := wa
  refine loop_up (P := fun i => _) ?_ fun i hi ih => ?_
  · rw [j56_4]
    simp [hlen]
  · have hi' : i < b.length := by omega
    rw [j56_4]
    simp [ia, ld, st, getRow, rowLen, storeRow, part, D.cells, D.isCell, bld, fillC, bsl, fillR, slS, slL, sliceStr, bound, cut0, srcRows, rowsFit, call_pure, call_view, nilCheck, rInt, rStr, rBool, rByte, hi, hi']
    rw [c93 a[i] b[i]]
    simp only [Option.bind_some, unOp_not, asB_bool, bI_add]
    simp (disch := omega) only [wrap_i64]
    rw [drop_dec hi hi']
    by_cases h : a[i] = b[i] <;> simp [h]
    simpa using ih
theorem c56 (a b : List SConst) (wa : a.length ≤ 140737488351232) : run E (exec E) false 56 [.list (a.map SConst.row), .list (b.map SConst.row)] = some (.bool (decide (a = b))) := by
  rw [run_ent, e56]
  by_cases h : a.length = b.length
  · have := c56_4 a b wa h [] 0 (by omega)
    simp only [Int.natCast_zero] at this
    simp [h, this]
  · have : a ≠ b := fun e => h (by rw [e])
    simp [show ¬ (a.length : Int) = b.length by omega, this]
theorem c63 (a b : SIns) : run E (exec E) false 63 [a.d, b.d] = some (.bool (decide (a = b))) := by
  rw [run_ent, e63]
  obtain ⟨a0, a1, a2⟩ := a
  obtain ⟨b0, b1, b2⟩ := b
  simp [SIns.row, ia, ld, st, getRow, rowLen, storeRow, part, D.cells, D.isCell, bld, fillC, bsl, fillR, slS, slL, sliceStr, bound, cut0, srcRows, rowsFit, call_pure, call_view, nilCheck, rInt, rStr, rBool, rByte]
  by_cases g0 : ¬ a0 = b0
  · simp [g0]
  have g0 := Decidable.not_not.mp g0
  subst g0
  by_cases g1 : ¬ a1 = b1
  · simp [g1]
  have g1 := Decidable.not_not.mp g1
  subst g1
  by_cases g2 : ¬ a2 = b2
  · simp [g2]
  have g2 := Decidable.not_not.mp g2
  subst g2
  try simp [ia, ld, st, getRow, rowLen, storeRow, part, D.cells, D.isCell, bld, fillC, bsl, fillR, slS, slL, sliceStr, bound, cut0, srcRows, rowsFit, call_pure, call_view, nilCheck, rInt, rStr, rBool, rByte]
theorem c21_4 (a b : List SIns) (wa : a.length ≤ 140737488351232) (hlen : a.length = b.length) (H : Heap) : ∀ i, i ≤ a.length → J E 21 4 [.list (a.map SIns.row), .list (b.map SIns.row), .int .i64 i] H = some (.bool (decide (a.drop i = b.drop i)), H) := by
  have w1 := wa
  refine loop_up (P := fun i => _) ?_ fun i hi ih => ?_
  · rw [j21_4]
    simp [hlen]
  · have hi' : i < b.length := by omega
    rw [j21_4]
    simp [ia, ld, st, getRow, rowLen, storeRow, part, D.cells, D.isCell, bld, fillC, bsl, fillR, slS, slL, sliceStr, bound, cut0, srcRows, rowsFit, call_pure, call_view, nilCheck, rInt, rStr, rBool, rByte, hi, hi']
    rw [c63 a[i] b[i]]
    simp only [Option.bind_some, unOp_not, asB_bool, bI_add]
    simp (disch := omega) only [wrap_i64]
    rw [drop_dec hi hi']
    by_cases h : a[i] = b[i] <;> simp [h]
    simpa using ih
theorem c21 (a b : List SIns) (wa : a.length ≤ 140737488351232) : run E (exec E) false 21 [.list (a.map SIns.row), .list (b.map SIns.row)] = some (.bool (decide (a = b))) := by
  rw [run_ent, e21]
  by_cases h : a.length = b.length
  · have := c21_4 a b wa h [] 0 (by omega)
    simp only [Int.natCast_zero] at this
    simp [h, this]
  · have : a ≠ b := fun e => h (by rw [e])
    simp [show ¬ (a.length : Int) = b.length by omega, this]
theorem c68 (a b : SLine) : run E (exec E) false 68 [a.d, b.d] = some (.bool (decide (a = b))) := by
  rw [run_ent, e68]
  obtain ⟨a0, a1, a2, a3, a4, a5⟩ := a
  obtain ⟨b0, b1, b2, b3, b4, b5⟩ := b
  simp [SLine.row, ia, ld, st, getRow, rowLen, storeRow, part, D.cells, D.isCell, bld, fillC, bsl, fillR, slS, slL, sliceStr, bound, cut0, srcRows, rowsFit, call_pure, call_view, nilCheck, rInt, rStr, rBool, rByte]
  by_cases g0 : ¬ a0 = b0
  · simp [g0]
  have g0 := Decidable.not_not.mp g0
  subst g0
  by_cases g1 : ¬ a1 = b1
  · simp [g1]
  have g1 := Decidable.not_not.mp g1
  subst g1
  by_cases g2 : ¬ a2 = b2
  · simp [g2]
  have g2 := Decidable.not_not.mp g2
  subst g2
  by_cases g3 : ¬ a3 = b3
  · simp [g3]
  have g3 := Decidable.not_not.mp g3
  subst g3
  by_cases g4 : ¬ a4 = b4
  · simp [g4]
  have g4 := Decidable.not_not.mp g4
  subst g4
  by_cases g5 : ¬ a5 = b5
  · simp [g5]
  have g5 := Decidable.not_not.mp g5
  subst g5
  try simp [ia, ld, st, getRow, rowLen, storeRow, part, D.cells, D.isCell, bld, fillC, bsl, fillR, slS, slL, sliceStr, bound, cut0, srcRows, rowsFit, call_pure, call_view, nilCheck, rInt, rStr, rBool, rByte]
theorem c29_4 (a b : List SLine) (wa : a.length ≤ 140737488351232) (hlen : a.length = b.length) (H : Heap) : ∀ i, i ≤ a.length → J E 29 4 [.list (a.map SLine.row), .list (b.map SLine.row), .int .i64 i] H = some (.bool (decide (a.drop i = b.drop i)), H) := by
  have w1 := wa
  refine loop_up (P := fun i => _) ?_ fun i hi ih => ?_
  · rw [j29_4]
    simp [hlen]
  · have hi' : i < b.length := by omega
    rw [j29_4]
    simp [ia, ld, st, getRow, rowLen, storeRow, part, D.cells, D.isCell, bld, fillC, bsl, fillR, slS, slL, sliceStr, bound, cut0, srcRows, rowsFit, call_pure, call_view, nilCheck, rInt, rStr, rBool, rByte, hi, hi']
    rw [c68 a[i] b[i]]
    simp only [Option.bind_some, unOp_not, asB_bool, bI_add]
    simp (disch := omega) only [wrap_i64]
    rw [drop_dec hi hi']
    by_cases h : a[i] = b[i] <;> simp [h]
    simpa using ih
theorem c29 (a b : List SLine) (wa : a.length ≤ 140737488351232) : run E (exec E) false 29 [.list (a.map SLine.row), .list (b.map SLine.row)] = some (.bool (decide (a = b))) := by
  rw [run_ent, e29]
  by_cases h : a.length = b.length
  · have := c29_4 a b wa h [] 0 (by omega)
    simp only [Int.natCast_zero] at this
    simp [h, this]
  · have : a ≠ b := fun e => h (by rw [e])
    simp [show ¬ (a.length : Int) = b.length by omega, this]
theorem c143 (a b : SFile) : run E (exec E) false 143 [a.d, b.d] = some (.bool (decide (a = b))) := by
  rw [run_ent, e143]
  obtain ⟨a0, a1⟩ := a
  obtain ⟨b0, b1⟩ := b
  simp [SFile.row, ia, ld, st, getRow, rowLen, storeRow, part, D.cells, D.isCell, bld, fillC, bsl, fillR, slS, slL, sliceStr, bound, cut0, srcRows, rowsFit, call_pure, call_view, nilCheck, rInt, rStr, rBool, rByte]
  by_cases g0 : ¬ a0 = b0
  · simp [g0]
  have g0 := Decidable.not_not.mp g0
  subst g0
  by_cases g1 : ¬ a1 = b1
  · simp [g1]
  have g1 := Decidable.not_not.mp g1
  subst g1
  try simp [ia, ld, st, getRow, rowLen, storeRow, part, D.cells, D.isCell, bld, fillC, bsl, fillR, slS, slL, sliceStr, bound, cut0, srcRows, rowsFit, call_pure, call_view, nilCheck, rInt, rStr, rBool, rByte]
theorem c112_4 (a b : List SFile) (wa : a.length ≤ 140737488351232) (hlen : a.length = b.length) (H : Heap) : ∀ i, i ≤ a.length → J E 112 4 [.list (a.map SFile.row), .list (b.map SFile.row), .int .i64 i] H = some (.bool (decide (a.drop i = b.drop i)), H) := by
  have w1 := wa
  refine loop_up (P := fun i => _) ?_ fun i hi ih => ?_
  · rw [j112_4]
    simp [hlen]
  · have hi' : i < b.length := by omega
    rw [j112_4]
    simp [ia, ld, st, getRow, rowLen, storeRow, part, D.cells, D.isCell, bld, fillC, bsl, fillR, slS, slL, sliceStr, bound, cut0, srcRows, rowsFit, call_pure, call_view, nilCheck, rInt, rStr, rBool, rByte, hi, hi']
    rw [c143 a[i] b[i]]
    simp only [Option.bind_some, unOp_not, asB_bool, bI_add]
    simp (disch := omega) only [wrap_i64]
    rw [drop_dec hi hi']
    by_cases h : a[i] = b[i] <;> simp [h]
    simpa using ih
theorem c112 (a b : List SFile) (wa : a.length ≤ 140737488351232) : run E (exec E) false 112 [.list (a.map SFile.row), .list (b.map SFile.row)] = some (.bool (decide (a = b))) := by
  rw [run_ent, e112]
  by_cases h : a.length = b.length
  · have := c112_4 a b wa h [] 0 (by omega)
    simp only [Int.natCast_zero] at this
    simp [h, this]
  · have : a ≠ b := fun e => h (by rw [e])
    simp [show ¬ (a.length : Int) = b.length by omega, this]
theorem c144 (a b : SWay) : run E (exec E) false 144 [a.d, b.d] = some (.bool (decide (a = b))) := by
  rw [run_ent, e144]
  obtain ⟨a0, a1⟩ := a
  obtain ⟨b0, b1⟩ := b
  simp [SWay.row, ia, ld, st, getRow, rowLen, storeRow, part, D.cells, D.isCell, bld, fillC, bsl, fillR, slS, slL, sliceStr, bound, cut0, srcRows, rowsFit, call_pure, call_view, nilCheck, rInt, rStr, rBool, rByte]
  by_cases g0 : ¬ a0 = b0
  · simp [g0]
  have g0 := Decidable.not_not.mp g0
  subst g0
  by_cases g1 : ¬ a1 = b1
  · simp [g1]
  have g1 := Decidable.not_not.mp g1
  subst g1
  try simp [ia, ld, st, getRow, rowLen, storeRow, part, D.cells, D.isCell, bld, fillC, bsl, fillR, slS, slL, sliceStr, bound, cut0, srcRows, rowsFit, call_pure, call_view, nilCheck, rInt, rStr, rBool, rByte]
theorem c113_4 (a b : List SWay) (wa : a.length ≤ 140737488351232) (hlen : a.length = b.length) (H : Heap) : ∀ i, i ≤ a.length → J E 113 4 [.list (a.map SWay.row), .list (b.map SWay.row), .int .i64 i] H = some (.bool (decide (a.drop i = b.drop i)), H) := by
  have w1 := wa
  refine loop_up (P := fun i => _) ?_ fun i hi ih => ?_
  · rw [j113_4]
    simp [hlen]
  · have hi' : i < b.length := by omega
    rw [j113_4]
    simp [ia, ld, st, getRow, rowLen, storeRow, part, D.cells, D.isCell, bld, fillC, bsl, fillR, slS, slL, sliceStr, bound, cut0, srcRows, rowsFit, call_pure, call_view, nilCheck, rInt, rStr, rBool, rByte, hi, hi']
    rw [c144 a[i] b[i]]
    simp only [Option.bind_some, unOp_not, asB_bool, bI_add]
    simp (disch := omega) only [wrap_i64]
    rw [drop_dec hi hi']
    by_cases h : a[i] = b[i] <;> simp [h]
    simpa using ih
theorem c113 (a b : List SWay) (wa : a.length ≤ 140737488351232) : run E (exec E) false 113 [.list (a.map SWay.row), .list (b.map SWay.row)] = some (.bool (decide (a = b))) := by
  rw [run_ent, e113]
  by_cases h : a.length = b.length
  · have := c113_4 a b wa h [] 0 (by omega)
    simp only [Int.natCast_zero] at this
    simp [h, this]
  · have : a ≠ b := fun e => h (by rw [e])
    simp [show ¬ (a.length : Int) = b.length by omega, this]
theorem c88 (a b : SLoader) (ha : a.fit) (hb : b.fit) : run E (exec E) false 88 [a.d, b.d] = some (.bool (decide (a = b))) := by
  rw [run_ent, e88]
  obtain ⟨a0, a1, a2⟩ := a
  obtain ⟨b0, b1, b2⟩ := b
  simp only [SLoader.fit] at ha hb
  simp [SLoader.row, ia, ld, st, getRow, rowLen, storeRow, part, D.cells, D.isCell, bld, fillC, bsl, fillR, slS, slL, sliceStr, bound, cut0, srcRows, rowsFit, call_pure, call_view, nilCheck, rInt, rStr, rBool, rByte]
  rw [c112 a0 b0 (by simp_all)]
  simp only [Option.bind_some, unOp_not, asB_bool]
  by_cases g0 : ¬ a0 = b0
  · simp [g0]
  have g0 := Decidable.not_not.mp g0
  subst g0
  simp [ia, ld, st, getRow, rowLen, storeRow, part, D.cells, D.isCell, bld, fillC, bsl, fillR, slS, slL, sliceStr, bound, cut0, srcRows, rowsFit, call_pure, call_view, nilCheck, rInt, rStr, rBool, rByte]
  rw [c113 a1 b1 (by simp_all)]
  simp only [Option.bind_some, unOp_not, asB_bool]
  by_cases g1 : ¬ a1 = b1
  · simp [g1]
  have g1 := Decidable.not_not.mp g1
  subst g1
  simp [ia, ld, st, getRow, rowLen, storeRow, part, D.cells, D.isCell, bld, fillC, bsl, fillR, slS, slL, sliceStr, bound, cut0, srcRows, rowsFit, call_pure, call_view, nilCheck, rInt, rStr, rBool, rByte]
  by_cases g2 : ¬ a2 = b2
  · simp [g2]
  have g2 := Decidable.not_not.mp g2
  subst g2
  try simp [ia, ld, st, getRow, rowLen, storeRow, part, D.cells, D.isCell, bld, fillC, bsl, fillR, slS, slL, sliceStr, bound, cut0, srcRows, rowsFit, call_pure, call_view, nilCheck, rInt, rStr, rBool, rByte]
theorem c49_4 (a b : List SLoader) (wa : a.length ≤ 140737488351232 ∧ ∀ z ∈ a, z.fit) (wb : b.length ≤ 140737488351232 ∧ ∀ z ∈ b, z.fit) (hlen : a.length = b.length) (H : Heap) : ∀ i, i ≤ a.length → J E 49 4 [.list (a.map SLoader.row), .list (b.map SLoader.row), .int .i64 i] H = some (.bool (decide (a.drop i = b.drop i)), H) := by
  have w1 := wa.1
  refine loop_up (P := fun i => _) ?_ fun i hi ih => ?_
  · rw [j49_4]
    simp [hlen]
  · have hi' : i < b.length := by omega
    rw [j49_4]
    simp [ia, ld, st, getRow, rowLen, storeRow, part, D.cells, D.isCell, bld, fillC, bsl, fillR, slS, slL, sliceStr, bound, cut0, srcRows, rowsFit, call_pure, call_view, nilCheck, rInt, rStr, rBool, rByte, hi, hi']
    rw [c88 a[i] b[i] (wa.2 _ (List.getElem_mem hi)) (wb.2 _ (List.getElem_mem hi'))]
    simp only [Option.bind_some, unOp_not, asB_bool, bI_add]
    simp (disch := omega) only [wrap_i64]
    rw [drop_dec hi hi']
    by_cases h : a[i] = b[i] <;> simp [h]
    simpa using ih
theorem c49 (a b : List SLoader) (wa : a.length ≤ 140737488351232 ∧ ∀ z ∈ a, z.fit) (wb : b.length ≤ 140737488351232 ∧ ∀ z ∈ b, z.fit) : run E (exec E) false 49 [.list (a.map SLoader.row), .list (b.map SLoader.row)] = some (.bool (decide (a = b))) := by
  rw [run_ent, e49]
  by_cases h : a.length = b.length
  · have := c49_4 a b wa wb h [] 0 (by omega)
    simp only [Int.natCast_zero] at this
    simp [h, this]
  · have : a ≠ b := fun e => h (by rw [e])
    simp [show ¬ (a.length : Int) = b.length by omega, this]
end Go.Ev.Ytohkcloiokhglaa
