/- Contracts. -/
import Derived.Test.YtohkcloiokhglaaC0M1
namespace Go.Ev.Ytohkcloiokhglaa
set_option linter.unusedVariables false
set_option linter.unusedSimpArgs false
open Go.Ev
theorem c64 (x : SLine) (left : Int) (hw : x.wf) (h0 : 0 ≤ left) (h1 : left ≤ 1048576) : run E (exec E) false 64 [x.d, .int .i64 left] = some (.int .i64 (szR x.sz left)) := by
  obtain ⟨-, w0, w1, -, -, -⟩ := hw
  rw [run_ent, e64]
  simp [SLine.row, ia, ld, st, getRow, rowLen, storeRow, part, D.cells, D.isCell, bld, fillC, bsl, fillR, slS, slL, sliceStr, bound, cut0, srcRows, rowsFit, call_pure, call_view, nilCheck, rInt, rStr, rBool, rByte]
  rw [wrap_i64 (n := left - (x.Class.length : Int)) (by omega) (by omega)]
  by_cases g0 : ¬ (x.Class.length : Int) ≤ left
  · simp [show left - (x.Class.length : Int) < 0 by omega]
    rw [szR_neg (by simp only [SLine.sz]; omega)]
  simp only [show ¬ left - (x.Class.length : Int) < 0 by omega, decide_false, cond_false]
  rw [wrap_i64 (n := left - (x.Class.length : Int) - (x.Method.length : Int)) (by omega) (by omega)]
  by_cases g1 : ¬ (x.Method.length : Int) ≤ left - (x.Class.length : Int)
  · simp [show left - (x.Class.length : Int) - (x.Method.length : Int) < 0 by omega]
    rw [szR_neg (by simp only [SLine.sz]; omega)]
  simp only [show ¬ left - (x.Class.length : Int) - (x.Method.length : Int) < 0 by omega, decide_false, cond_false]
  rw [szR_pos (by simp only [SLine.sz]; omega)]
  simp [SLine.sz]
  try omega
theorem c24_5 (xs : List SLine) (w : xs.length ≤ 140737488351232 ∧ ∀ y ∈ xs, y.wf) (H : Heap) : ∀ i, i ≤ xs.length → ∀ left : Int, 0 ≤ left → left ≤ 1048576 → J E 24 5 [.list (xs.map SLine.row), .int .i64 left, .int .i64 i] H = some (.int .i64 (szR ((xs.drop i).map SLine.sz).sum left), H) := by
  have w1 := w.1
  refine loop_up (P := fun i => _) ?_ fun i hi ih left h0 h1 => ?_
  · intro left h0 h1
    rw [j24_5]
    simp [szR, h0]
  · have hs : ((xs.drop i).map SLine.sz).sum = SLine.sz xs[i] + ((xs.drop (i + 1)).map SLine.sz).sum := by rw [List.drop_eq_getElem_cons hi]; rfl
    generalize ((xs.drop i).map SLine.sz).sum = S0 at hs
    generalize hS1 : ((xs.drop (i + 1)).map SLine.sz).sum = S1 at hs ih
    rw [j24_5]
    simp [ia, ld, st, getRow, rowLen, storeRow, part, D.cells, D.isCell, bld, fillC, bsl, fillR, slS, slL, sliceStr, bound, cut0, srcRows, rowsFit, call_pure, call_view, nilCheck, rInt, rStr, rBool, rByte, hi]
    have q := c64 xs[i] left (w.2 _ (List.getElem_mem hi)) h0 h1
    rw [q]
    simp only [Option.bind_some, bI_lss, asB_bool, bI_add]
    rw [wrap_i64 (n := (i : Int) + 1) (by omega) (by omega)]
    by_cases g : ¬ ((xs[i].sz : Nat) : Int) ≤ left
    · rw [szR_neg g, szR_neg (by omega)]; simp
    have g := Decidable.not_not.mp g
    simp only [szR_pos g, show ¬ left - ((xs[i].sz : Nat) : Int) < 0 by omega, decide_false, cond_false]
    have := ih (left - ((xs[i].sz : Nat) : Int)) (by omega) (by omega)
    simp only [Int.natCast_add, Int.natCast_one] at this
    rw [this]
    by_cases g2 : (S1 : Int) ≤ left - ((xs[i].sz : Nat) : Int)
    · rw [szR_pos g2, szR_pos (by omega)]; congr 3; omega
    · rw [szR_neg g2, szR_neg (by omega)]
theorem c24 (xs : List SLine) (left : Int) (w : xs.length ≤ 140737488351232 ∧ ∀ y ∈ xs, y.wf) (h0 : 0 ≤ left) (h1 : left ≤ 1048576) : run E (exec E) false 24 [.list (xs.map SLine.row), .int .i64 left] = some (.int .i64 (szR (szL SLine.sz xs) left)) := by
  have w1 := w.1
  rw [run_ent, e24]
  simp
  rw [wrap_i64 (n := left - (xs.length : Int)) (by omega) (by omega)]
  by_cases g : ¬ (xs.length : Int) ≤ left
  · rw [szR_neg (by simp only [szL]; omega)]; simp [show left - (xs.length : Int) < 0 by omega]
  simp only [show ¬ left - (xs.length : Int) < 0 by omega, decide_false, cond_false]
  have := c24_5 xs w [] 0 (by omega) (left - xs.length) (by omega) (by omega)
  simp only [Int.natCast_zero, List.drop_zero] at this
  rw [this]
  simp only [Option.bind_some, readT_int, szL]
  by_cases g2 : (((xs.map SLine.sz).sum : Nat) : Int) ≤ left - xs.length
  · rw [szR_pos g2, szR_pos (by omega)]; simp only [Int.natCast_add]; congr 2; omega
  · rw [szR_neg g2, szR_neg (by omega)]
end Go.Ev.Ytohkcloiokhglaa
