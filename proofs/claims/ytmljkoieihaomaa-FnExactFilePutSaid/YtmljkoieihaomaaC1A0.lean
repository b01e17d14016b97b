/- Contracts. -/
import Derived.Test.YtmljkoieihaomaaC0M2
namespace Go.Ev.Ytmljkoieihaomaa
set_option linter.unusedVariables false
set_option linter.unusedSimpArgs false
open Go.Ev
theorem c50 (xs : List Int) (left : Int) (w : xs.length ≤ 140737488351232 ∧ ∀ y ∈ xs, i64 y) (h0 : 0 ≤ left) (h1 : left ≤ 1048576) : run E (exec E) false 50 [.list (xs.map rInt), .int .i64 left] = some (.int .i64 (szR (szL (fun _ => 0) xs) left)) := by
  have w1 := w.1
  rw [run_ent, e50]
  simp
  rw [wrap_i64 (n := left - (xs.length : Int)) (by omega) (by omega)]
  have hz : szL (fun _ => 0) xs = xs.length := szL_zero xs
  rw [hz]
  by_cases g : (xs.length : Int) ≤ left
  · simp [szR, g, show ¬ left - (xs.length : Int) < 0 by omega]
  · simp [szR, g, show left - (xs.length : Int) < 0 by omega]
theorem c93 (x : SConst) (left : Int) (hw : x.wf) (h0 : 0 ≤ left) (h1 : left ≤ 1048576) : run E (exec E) false 93 [x.d, .int .i64 left] = some (.int .i64 (szR x.sz left)) := by
  obtain ⟨-, w0, -, -⟩ := hw
  rw [run_ent, e93]
  simp [SConst.row, ia, ld, st, getRow, rowLen, storeRow, part, D.cells, D.isCell, bld, fillC, bsl, fillR, slS, slL, sliceStr, bound, cut0, srcRows, rowsFit, call_pure, call_view, nilCheck, rInt, rStr, rBool, rByte]
  rw [wrap_i64 (n := left - (x.Text.length : Int)) (by omega) (by omega)]
  by_cases g0 : ¬ (x.Text.length : Int) ≤ left
  · simp [show left - (x.Text.length : Int) < 0 by omega]
    rw [szR_neg (by simp only [SConst.sz]; omega)]
  simp only [show ¬ left - (x.Text.length : Int) < 0 by omega, decide_false, cond_false]
  rw [szR_pos (by simp only [SConst.sz]; omega)]
  simp [SConst.sz]
  try omega
theorem c49_5 (xs : List SConst) (w : xs.length ≤ 140737488351232 ∧ ∀ y ∈ xs, y.wf) (H : Heap) : ∀ i, i ≤ xs.length → ∀ left : Int, 0 ≤ left → left ≤ 1048576 → J E 49 5 [.list (xs.map SConst.row), .int .i64 left, .int .i64 i] H = some (.int .i64 (szR ((xs.drop i).map SConst.sz).sum left), H) := by
  have w1 := w.1
  refine loop_up (P := fun i => _) ?_ fun i hi ih left h0 h1 => ?_
  · intro left h0 h1
    rw [j49_5]
    simp [szR, h0]
  · have hs : ((xs.drop i).map SConst.sz).sum = SConst.sz xs[i] + ((xs.drop (i + 1)).map SConst.sz).sum := by rw [List.drop_eq_getElem_cons hi]; rfl
    generalize ((xs.drop i).map SConst.sz).sum = S0 at hs
    generalize hS1 : ((xs.drop (i + 1)).map SConst.sz).sum = S1 at hs ih
    rw [j49_5]
    simp [ia, ld, st, getRow, rowLen, storeRow, part, D.cells, D.isCell, bld, fillC, bsl, fillR, slS, slL, sliceStr, bound, cut0, srcRows, rowsFit, call_pure, call_view, nilCheck, rInt, rStr, rBool, rByte, hi]
    have q := c93 xs[i] left (w.2 _ (List.getElem_mem hi)) h0 h1
    rw [q]
    simp only [Option.bind_some, bI_lss, asB_bool, bI_add]
    rw [wrap_i64 (n := (i : Int) + 1) (by omega) (by omega)]
    by_cases g : ¬ ((xs[i].sz : Nat) : Int) ≤ left
    · rw [szR_neg g, szR_neg (by omega)]; simp
    have g := Decidable.not_not.mp g
    simp only [szR_pos g, show ¬ left - ((xs[i].sz : Nat) : Int) < 0 by omega, decide_false, cond_false]
    have := ih (left - ((xs[i].sz : Nat) : Int)) (by omega) (by omega)
    simp only [Int.natCast_add, Int.natCast_one] at this
    rw [this]
    by_cases g2 : (S1 : Int) ≤ left - ((xs[i].sz : Nat) : Int)
    · rw [szR_pos g2, szR_pos (by omega)]; congr 3; omega
    · rw [szR_neg g2, szR_neg (by omega)]
theorem c49 (xs : List SConst) (left : Int) (w : xs.length ≤ 140737488351232 ∧ ∀ y ∈ xs, y.wf) (h0 : 0 ≤ left) (h1 : left ≤ 1048576) : run E (exec E) false 49 [.list (xs.map SConst.row), .int .i64 left] = some (.int .i64 (szR (szL SConst.sz xs) left)) := by
  have w1 := w.1
  rw [run_ent, e49]
  simp
  rw [wrap_i64 (n := left - (xs.length : Int)) (by omega) (by omega)]
  by_cases g : ¬ (xs.length : Int) ≤ left
  · rw [szR_neg (by simp only [szL]; omega)]; simp [show left - (xs.length : Int) < 0 by omega]
  simp only [show ¬ left - (xs.length : Int) < 0 by omega, decide_false, cond_false]
  have := c49_5 xs w [] 0 (by omega) (left - xs.length) (by omega) (by omega)
  simp only [Int.natCast_zero, List.drop_zero] at this
  rw [this]
  simp only [Option.bind_some, readT_int, szL]
  by_cases g2 : (((xs.map SConst.sz).sum : Nat) : Int) ≤ left - xs.length
  · rw [szR_pos g2, szR_pos (by omega)]; simp only [Int.natCast_add]; congr 2; omega
  · rw [szR_neg g2, szR_neg (by omega)]
theorem c51 (xs : List SField) (left : Int) (w : xs.length ≤ 140737488351232 ∧ ∀ y ∈ xs, y.wf) (h0 : 0 ≤ left) (h1 : left ≤ 1048576) : run E (exec E) false 51 [.list (xs.map SField.row), .int .i64 left] = some (.int .i64 (szR (szL (fun _ => 0) xs) left)) := by
  have w1 := w.1
  rw [run_ent, e51]
  simp
  rw [wrap_i64 (n := left - (xs.length : Int)) (by omega) (by omega)]
  have hz : szL (fun _ => 0) xs = xs.length := szL_zero xs
  rw [hz]
  by_cases g : (xs.length : Int) ≤ left
  · simp [szR, g, show ¬ left - (xs.length : Int) < 0 by omega]
  · simp [szR, g, show left - (xs.length : Int) < 0 by omega]
theorem c136 (xs : List STrap) (left : Int) (w : xs.length ≤ 140737488351232 ∧ ∀ y ∈ xs, y.wf) (h0 : 0 ≤ left) (h1 : left ≤ 1048576) : run E (exec E) false 136 [.list (xs.map STrap.row), .int .i64 left] = some (.int .i64 (szR (szL (fun _ => 0) xs) left)) := by
  have w1 := w.1
  rw [run_ent, e136]
  simp
  rw [wrap_i64 (n := left - (xs.length : Int)) (by omega) (by omega)]
  have hz : szL (fun _ => 0) xs = xs.length := szL_zero xs
  rw [hz]
  by_cases g : (xs.length : Int) ≤ left
  · simp [szR, g, show ¬ left - (xs.length : Int) < 0 by omega]
  · simp [szR, g, show left - (xs.length : Int) < 0 by omega]
theorem c163 (xs : List SKind) (left : Int) (w : xs.length ≤ 140737488351232 ∧ ∀ y ∈ xs, y.wf) (h0 : 0 ≤ left) (h1 : left ≤ 1048576) : run E (exec E) false 163 [.list (xs.map SKind.row), .int .i64 left] = some (.int .i64 (szR (szL (fun _ => 0) xs) left)) := by
  have w1 := w.1
  rw [run_ent, e163]
  simp
  rw [wrap_i64 (n := left - (xs.length : Int)) (by omega) (by omega)]
  have hz : szL (fun _ => 0) xs = xs.length := szL_zero xs
  rw [hz]
  by_cases g : (xs.length : Int) ≤ left
  · simp [szR, g, show ¬ left - (xs.length : Int) < 0 by omega]
  · simp [szR, g, show left - (xs.length : Int) < 0 by omega]
theorem c157 (x : SFrame) (left : Int) (hw : x.wf) (h0 : 0 ≤ left) (h1 : left ≤ 1048576) : run E (exec E) false 157 [x.d, .int .i64 left] = some (.int .i64 (szR x.sz left)) := by
  obtain ⟨-, w0, w1⟩ := hw
  rw [run_ent, e157]
  simp [SFrame.row, ia, ld, st, getRow, rowLen, storeRow, part, D.cells, D.isCell, bld, fillC, bsl, fillR, slS, slL, sliceStr, bound, cut0, srcRows, rowsFit, call_pure, call_view, nilCheck, rInt, rStr, rBool, rByte]
  rw [c163 x.Locals (left) w0 (by omega) (by omega)]
  simp only [Option.bind_some, bI_lss, asB_bool]
  by_cases g0 : ¬ ((szL (fun _ => 0) x.Locals : Nat) : Int) ≤ left
  · rw [szR_neg g0, szR_neg (s := x.sz) (by simp only [SFrame.sz]; omega)]; simp
  have g0 := Decidable.not_not.mp g0
  simp only [szR_pos g0, show ¬ left - ((szL (fun _ => 0) x.Locals : Nat) : Int) < 0 by omega, decide_false, cond_false, Option.bind_some, fa_ptr, getBlk_zero, List.getElem?_cons_zero, List.getElem?_cons_succ, Nat.zero_add, optAll_cons, optAll_nil, readT_int, readT_list9]
  rw [c163 x.Stack (left - ((szL (fun _ => 0) x.Locals : Nat) : Int)) w1 (by omega) (by omega)]
  simp only [Option.bind_some, bI_lss, asB_bool]
  by_cases g1 : ¬ ((szL (fun _ => 0) x.Stack : Nat) : Int) ≤ left - ((szL (fun _ => 0) x.Locals : Nat) : Int)
  · rw [szR_neg g1, szR_neg (s := x.sz) (by simp only [SFrame.sz]; omega)]; simp
  have g1 := Decidable.not_not.mp g1
  simp only [szR_pos g1, show ¬ left - ((szL (fun _ => 0) x.Locals : Nat) : Int) - ((szL (fun _ => 0) x.Stack : Nat) : Int) < 0 by omega, decide_false, cond_false, Option.bind_some, fa_ptr, getBlk_zero, List.getElem?_cons_zero, List.getElem?_cons_succ, Nat.zero_add, optAll_cons, optAll_nil, readT_int, readT_list9]
  rw [szR_pos (by simp only [SFrame.sz]; omega)]
  simp [SFrame.sz]
  try omega
theorem c137_5 (xs : List SFrame) (w : xs.length ≤ 140737488351232 ∧ ∀ y ∈ xs, y.wf) (H : Heap) : ∀ i, i ≤ xs.length → ∀ left : Int, 0 ≤ left → left ≤ 1048576 → J E 137 5 [.list (xs.map SFrame.row), .int .i64 left, .int .i64 i] H = some (.int .i64 (szR ((xs.drop i).map SFrame.sz).sum left), H) := by
  have w1 := w.1
  refine loop_up (P := fun i => _) ?_ fun i hi ih left h0 h1 => ?_
  · intro left h0 h1
    rw [j137_5]
    simp [szR, h0]
  · have hs : ((xs.drop i).map SFrame.sz).sum = SFrame.sz xs[i] + ((xs.drop (i + 1)).map SFrame.sz).sum := by rw [List.drop_eq_getElem_cons hi]; rfl
    generalize ((xs.drop i).map SFrame.sz).sum = S0 at hs
    generalize hS1 : ((xs.drop (i + 1)).map SFrame.sz).sum = S1 at hs ih
    rw [j137_5]
    simp [ia, ld, st, getRow, rowLen, storeRow, part, D.cells, D.isCell, bld, fillC, bsl, fillR, slS, slL, sliceStr, bound, cut0, srcRows, rowsFit, call_pure, call_view, nilCheck, rInt, rStr, rBool, rByte, hi]
    have q := c157 xs[i] left (w.2 _ (List.getElem_mem hi)) h0 h1
    rw [q]
    simp only [Option.bind_some, bI_lss, asB_bool, bI_add]
    rw [wrap_i64 (n := (i : Int) + 1) (by omega) (by omega)]
    by_cases g : ¬ ((xs[i].sz : Nat) : Int) ≤ left
    · rw [szR_neg g, szR_neg (by omega)]; simp
    have g := Decidable.not_not.mp g
    simp only [szR_pos g, show ¬ left - ((xs[i].sz : Nat) : Int) < 0 by omega, decide_false, cond_false]
    have := ih (left - ((xs[i].sz : Nat) : Int)) (by omega) (by omega)
    simp only [Int.natCast_add, Int.natCast_one] at this
    rw [this]
    by_cases g2 : (S1 : Int) ≤ left - ((xs[i].sz : Nat) : Int)
    · rw [szR_pos g2, szR_pos (by omega)]; congr 3; omega
    · rw [szR_neg g2, szR_neg (by omega)]
theorem c137 (xs : List SFrame) (left : Int) (w : xs.length ≤ 140737488351232 ∧ ∀ y ∈ xs, y.wf) (h0 : 0 ≤ left) (h1 : left ≤ 1048576) : run E (exec E) false 137 [.list (xs.map SFrame.row), .int .i64 left] = some (.int .i64 (szR (szL SFrame.sz xs) left)) := by
  have w1 := w.1
  rw [run_ent, e137]
  simp
  rw [wrap_i64 (n := left - (xs.length : Int)) (by omega) (by omega)]
  by_cases g : ¬ (xs.length : Int) ≤ left
  · rw [szR_neg (by simp only [szL]; omega)]; simp [show left - (xs.length : Int) < 0 by omega]
  simp only [show ¬ left - (xs.length : Int) < 0 by omega, decide_false, cond_false]
  have := c137_5 xs w [] 0 (by omega) (left - xs.length) (by omega) (by omega)
  simp only [Int.natCast_zero, List.drop_zero] at this
  rw [this]
  simp only [Option.bind_some, readT_int, szL]
  by_cases g2 : (((xs.map SFrame.sz).sum : Nat) : Int) ≤ left - xs.length
  · rw [szR_pos g2, szR_pos (by omega)]; simp only [Int.natCast_add]; congr 2; omega
  · rw [szR_neg g2, szR_neg (by omega)]
theorem c94 (x : SMethod) (left : Int) (hw : x.wf) (h0 : 0 ≤ left) (h1 : left ≤ 1048576) : run E (exec E) false 94 [x.d, .int .i64 left] = some (.int .i64 (szR x.sz left)) := by
  obtain ⟨-, -, -, -, -, w0, w1, w2⟩ := hw
  rw [run_ent, e94]
  simp [SMethod.row, ia, ld, st, getRow, rowLen, storeRow, part, D.cells, D.isCell, bld, fillC, bsl, fillR, slS, slL, sliceStr, bound, cut0, srcRows, rowsFit, call_pure, call_view, nilCheck, rInt, rStr, rBool, rByte]
  rw [wrap_i64 (n := left - (x.Code.length : Int)) (by omega) (by omega)]
  by_cases g0 : ¬ (x.Code.length : Int) ≤ left
  · simp [show left - (x.Code.length : Int) < 0 by omega]
    rw [szR_neg (by simp only [SMethod.sz]; omega)]
  simp only [show ¬ left - (x.Code.length : Int) < 0 by omega, decide_false, cond_false]
  rw [c136 x.Traps (left - (x.Code.length : Int)) w1 (by omega) (by omega)]
  simp only [Option.bind_some, bI_lss, asB_bool]
  by_cases g1 : ¬ ((szL (fun _ => 0) x.Traps : Nat) : Int) ≤ left - (x.Code.length : Int)
  · rw [szR_neg g1, szR_neg (s := x.sz) (by simp only [SMethod.sz]; omega)]; simp
  have g1 := Decidable.not_not.mp g1
  simp only [szR_pos g1, show ¬ left - (x.Code.length : Int) - ((szL (fun _ => 0) x.Traps : Nat) : Int) < 0 by omega, decide_false, cond_false, Option.bind_some, fa_ptr, getBlk_zero, List.getElem?_cons_zero, List.getElem?_cons_succ, Nat.zero_add, optAll_cons, optAll_nil, readT_int, readT_list9]
  rw [c137 x.Frames (left - (x.Code.length : Int) - ((szL (fun _ => 0) x.Traps : Nat) : Int)) w2 (by omega) (by omega)]
  simp only [Option.bind_some, bI_lss, asB_bool]
  by_cases g2 : ¬ ((szL SFrame.sz x.Frames : Nat) : Int) ≤ left - (x.Code.length : Int) - ((szL (fun _ => 0) x.Traps : Nat) : Int)
  · rw [szR_neg g2, szR_neg (s := x.sz) (by simp only [SMethod.sz]; omega)]; simp
  have g2 := Decidable.not_not.mp g2
  simp only [szR_pos g2, show ¬ left - (x.Code.length : Int) - ((szL (fun _ => 0) x.Traps : Nat) : Int) - ((szL SFrame.sz x.Frames : Nat) : Int) < 0 by omega, decide_false, cond_false, Option.bind_some, fa_ptr, getBlk_zero, List.getElem?_cons_zero, List.getElem?_cons_succ, Nat.zero_add, optAll_cons, optAll_nil, readT_int, readT_list9]
  rw [szR_pos (by simp only [SMethod.sz]; omega)]
  simp [SMethod.sz]
  try omega
theorem c52_5 (xs : List SMethod) (w : xs.length ≤ 140737488351232 ∧ ∀ y ∈ xs, y.wf) (H : Heap) : ∀ i, i ≤ xs.length → ∀ left : Int, 0 ≤ left → left ≤ 1048576 → J E 52 5 [.list (xs.map SMethod.row), .int .i64 left, .int .i64 i] H = some (.int .i64 (szR ((xs.drop i).map SMethod.sz).sum left), H) := by
  have w1 := w.1
  refine loop_up (P := fun i => _) ?_ fun i hi ih left h0 h1 => ?_
  · intro left h0 h1
    rw [j52_5]
    simp [szR, h0]
  · have hs : ((xs.drop i).map SMethod.sz).sum = SMethod.sz xs[i] + ((xs.drop (i + 1)).map SMethod.sz).sum := by rw [List.drop_eq_getElem_cons hi]; rfl
    generalize ((xs.drop i).map SMethod.sz).sum = S0 at hs
    generalize hS1 : ((xs.drop (i + 1)).map SMethod.sz).sum = S1 at hs ih
    rw [j52_5]
    simp [ia, ld, st, getRow, rowLen, storeRow, part, D.cells, D.isCell, bld, fillC, bsl, fillR, slS, slL, sliceStr, bound, cut0, srcRows, rowsFit, call_pure, call_view, nilCheck, rInt, rStr, rBool, rByte, hi]
    have q := c94 xs[i] left (w.2 _ (List.getElem_mem hi)) h0 h1
    rw [q]
    simp only [Option.bind_some, bI_lss, asB_bool, bI_add]
    rw [wrap_i64 (n := (i : Int) + 1) (by omega) (by omega)]
    by_cases g : ¬ ((xs[i].sz : Nat) : Int) ≤ left
    · rw [szR_neg g, szR_neg (by omega)]; simp
    have g := Decidable.not_not.mp g
    simp only [szR_pos g, show ¬ left - ((xs[i].sz : Nat) : Int) < 0 by omega, decide_false, cond_false]
    have := ih (left - ((xs[i].sz : Nat) : Int)) (by omega) (by omega)
    simp only [Int.natCast_add, Int.natCast_one] at this
    rw [this]
    by_cases g2 : (S1 : Int) ≤ left - ((xs[i].sz : Nat) : Int)
    · rw [szR_pos g2, szR_pos (by omega)]; congr 3; omega
    · rw [szR_neg g2, szR_neg (by omega)]
theorem c52 (xs : List SMethod) (left : Int) (w : xs.length ≤ 140737488351232 ∧ ∀ y ∈ xs, y.wf) (h0 : 0 ≤ left) (h1 : left ≤ 1048576) : run E (exec E) false 52 [.list (xs.map SMethod.row), .int .i64 left] = some (.int .i64 (szR (szL SMethod.sz xs) left)) := by
  have w1 := w.1
  rw [run_ent, e52]
  simp
  rw [wrap_i64 (n := left - (xs.length : Int)) (by omega) (by omega)]
  by_cases g : ¬ (xs.length : Int) ≤ left
  · rw [szR_neg (by simp only [szL]; omega)]; simp [show left - (xs.length : Int) < 0 by omega]
  simp only [show ¬ left - (xs.length : Int) < 0 by omega, decide_false, cond_false]
  have := c52_5 xs w [] 0 (by omega) (left - xs.length) (by omega) (by omega)
  simp only [Int.natCast_zero, List.drop_zero] at this
  rw [this]
  simp only [Option.bind_some, readT_int, szL]
  by_cases g2 : (((xs.map SMethod.sz).sum : Nat) : Int) ≤ left - xs.length
  · rw [szR_pos g2, szR_pos (by omega)]; simp only [Int.natCast_add]; congr 2; omega
  · rw [szR_neg g2, szR_neg (by omega)]
theorem c20 (x : SClass) (left : Int) (hw : x.wf) (h0 : 0 ≤ left) (h1 : left ≤ 1048576) : run E (exec E) false 20 [x.d, .int .i64 left] = some (.int .i64 (szR x.sz left)) := by
  obtain ⟨w0, -, -, -, w1, w2, w3⟩ := hw
  rw [run_ent, e20]
  simp [SClass.row, ia, ld, st, getRow, rowLen, storeRow, part, D.cells, D.isCell, bld, fillC, bsl, fillR, slS, slL, sliceStr, bound, cut0, srcRows, rowsFit, call_pure, call_view, nilCheck, rInt, rStr, rBool, rByte]
  rw [c49 x.Pool (left) w0 (by omega) (by omega)]
  simp only [Option.bind_some, bI_lss, asB_bool]
  by_cases g0 : ¬ ((szL SConst.sz x.Pool : Nat) : Int) ≤ left
  · rw [szR_neg g0, szR_neg (s := x.sz) (by simp only [SClass.sz]; omega)]; simp
  have g0 := Decidable.not_not.mp g0
  simp only [szR_pos g0, show ¬ left - ((szL SConst.sz x.Pool : Nat) : Int) < 0 by omega, decide_false, cond_false, Option.bind_some, fa_ptr, getBlk_zero, List.getElem?_cons_zero, List.getElem?_cons_succ, Nat.zero_add, optAll_cons, optAll_nil, readT_int, readT_list9]
  rw [c50 x.Faces (left - ((szL SConst.sz x.Pool : Nat) : Int)) w1 (by omega) (by omega)]
  simp only [Option.bind_some, bI_lss, asB_bool]
  by_cases g1 : ¬ ((szL (fun _ => 0) x.Faces : Nat) : Int) ≤ left - ((szL SConst.sz x.Pool : Nat) : Int)
  · rw [szR_neg g1, szR_neg (s := x.sz) (by simp only [SClass.sz]; omega)]; simp
  have g1 := Decidable.not_not.mp g1
  simp only [szR_pos g1, show ¬ left - ((szL SConst.sz x.Pool : Nat) : Int) - ((szL (fun _ => 0) x.Faces : Nat) : Int) < 0 by omega, decide_false, cond_false, Option.bind_some, fa_ptr, getBlk_zero, List.getElem?_cons_zero, List.getElem?_cons_succ, Nat.zero_add, optAll_cons, optAll_nil, readT_int, readT_list9]
  rw [c51 x.Fields (left - ((szL SConst.sz x.Pool : Nat) : Int) - ((szL (fun _ => 0) x.Faces : Nat) : Int)) w2 (by omega) (by omega)]
  simp only [Option.bind_some, bI_lss, asB_bool]
  by_cases g2 : ¬ ((szL (fun _ => 0) x.Fields : Nat) : Int) ≤ left - ((szL SConst.sz x.Pool : Nat) : Int) - ((szL (fun _ => 0) x.Faces : Nat) : Int)
  · rw [szR_neg g2, szR_neg (s := x.sz) (by simp only [SClass.sz]; omega)]; simp
  have g2 := Decidable.not_not.mp g2
  simp only [szR_pos g2, show ¬ left - ((szL SConst.sz x.Pool : Nat) : Int) - ((szL (fun _ => 0) x.Faces : Nat) : Int) - ((szL (fun _ => 0) x.Fields : Nat) : Int) < 0 by omega, decide_false, cond_false, Option.bind_some, fa_ptr, getBlk_zero, List.getElem?_cons_zero, List.getElem?_cons_succ, Nat.zero_add, optAll_cons, optAll_nil, readT_int, readT_list9]
  rw [c52 x.Methods (left - ((szL SConst.sz x.Pool : Nat) : Int) - ((szL (fun _ => 0) x.Faces : Nat) : Int) - ((szL (fun _ => 0) x.Fields : Nat) : Int)) w3 (by omega) (by omega)]
  simp only [Option.bind_some, bI_lss, asB_bool]
  by_cases g3 : ¬ ((szL SMethod.sz x.Methods : Nat) : Int) ≤ left - ((szL SConst.sz x.Pool : Nat) : Int) - ((szL (fun _ => 0) x.Faces : Nat) : Int) - ((szL (fun _ => 0) x.Fields : Nat) : Int)
  · rw [szR_neg g3, szR_neg (s := x.sz) (by simp only [SClass.sz]; omega)]; simp
  have g3 := Decidable.not_not.mp g3
  simp only [szR_pos g3, show ¬ left - ((szL SConst.sz x.Pool : Nat) : Int) - ((szL (fun _ => 0) x.Faces : Nat) : Int) - ((szL (fun _ => 0) x.Fields : Nat) : Int) - ((szL SMethod.sz x.Methods : Nat) : Int) < 0 by omega, decide_false, cond_false, Option.bind_some, fa_ptr, getBlk_zero, List.getElem?_cons_zero, List.getElem?_cons_succ, Nat.zero_add, optAll_cons, optAll_nil, readT_int, readT_list9]
  rw [szR_pos (by simp only [SClass.sz]; omega)]
  simp [SClass.sz]
  try omega
end Go.Ev.Ytmljkoieihaomaa
