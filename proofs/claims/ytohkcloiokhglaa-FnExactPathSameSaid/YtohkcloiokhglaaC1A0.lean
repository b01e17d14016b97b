/- Contracts. -/
import Derived.Test.YtohkcloiokhglaaC0M2
namespace Go.Ev.Ytohkcloiokhglaa
set_option linter.unusedVariables false
set_option linter.unusedSimpArgs false
open Go.Ev
theorem c89 (x : SConst) (left : Int) (hw : x.wf) (h0 : 0 ≤ left) (h1 : left ≤ 1048576) : run E (exec E) false 89 [x.d, .int .i64 left] = some (.int .i64 (szR x.sz left)) := by
  obtain ⟨-, w0, -, -⟩ := hw
  rw [run_ent, e89]
  simp [SConst.row, ia, ld, st, getRow, rowLen, storeRow, part, D.cells, D.isCell, bld, fillC, bsl, fillR, slS, slL, sliceStr, bound, cut0, srcRows, rowsFit, call_pure, call_view, nilCheck, rInt, rStr, rBool, rByte]
  rw [wrap_i64 (n := left - (x.Text.length : Int)) (by omega) (by omega)]
  by_cases g0 : ¬ (x.Text.length : Int) ≤ left
  · simp [show left - (x.Text.length : Int) < 0 by omega]
    rw [szR_neg (by simp only [SConst.sz]; omega)]
  simp only [show ¬ left - (x.Text.length : Int) < 0 by omega, decide_false, cond_false]
  rw [szR_pos (by simp only [SConst.sz]; omega)]
  simp [SConst.sz]
  try omega
theorem c52_5 (xs : List SConst) (w : xs.length ≤ 140737488351232 ∧ ∀ y ∈ xs, y.wf) (H : Heap) : ∀ i, i ≤ xs.length → ∀ left : Int, 0 ≤ left → left ≤ 1048576 → J E 52 5 [.list (xs.map SConst.row), .int .i64 left, .int .i64 i] H = some (.int .i64 (szR ((xs.drop i).map SConst.sz).sum left), H) := by
  have w1 := w.1
  refine loop_up (P := fun i => _) ?_ fun i hi ih left h0 h1 => ?_
  · intro left h0 h1
    rw [j52_5]
    simp [szR, h0]
  · have hs : ((xs.drop i).map SConst.sz).sum = SConst.sz xs[i] + ((xs.drop (i + 1)).map SConst.sz).sum := by rw [List.drop_eq_getElem_cons hi]; rfl
    generalize ((xs.drop i).map SConst.sz).sum = S0 at hs
    generalize hS1 : ((xs.drop (i + 1)).map SConst.sz).sum = S1 at hs ih
    rw [j52_5]
    simp [ia, ld, st, getRow, rowLen, storeRow, part, D.cells, D.isCell, bld, fillC, bsl, fillR, slS, slL, sliceStr, bound, cut0, srcRows, rowsFit, call_pure, call_view, nilCheck, rInt, rStr, rBool, rByte, hi]
    have q := c89 xs[i] left (w.2 _ (List.getElem_mem hi)) h0 h1
    rw [q]
    simp only [Option.bind_some, bI_lss, asB_bool, bI_add]
    rw [wrap_i64 (n := (i : Int) + 1) (by omega) (by omega)]
    by_cases g : ¬ ((xs[i].sz : Nat) : Int) ≤ left
    · rw [szR_neg g, szR_neg (by omega)]; simp
    have g := Decidable.not_not.mp g
    simp only [szR_pos g, show ¬ left - ((xs[i].sz : Nat) : Int) < 0 by omega, decide_false, cond_false]
    have := ih (left - ((xs[i].sz : Nat) : Int)) (by omega) (by omega)
    simp only [Int.natCast_add, Int.natCast_one] at this
    rw [this]
    by_cases g2 : (S1 : Int) ≤ left - ((xs[i].sz : Nat) : Int)
    · rw [szR_pos g2, szR_pos (by omega)]; congr 3; omega
    · rw [szR_neg g2, szR_neg (by omega)]
theorem c52 (xs : List SConst) (left : Int) (w : xs.length ≤ 140737488351232 ∧ ∀ y ∈ xs, y.wf) (h0 : 0 ≤ left) (h1 : left ≤ 1048576) : run E (exec E) false 52 [.list (xs.map SConst.row), .int .i64 left] = some (.int .i64 (szR (szL SConst.sz xs) left)) := by
  have w1 := w.1
  rw [run_ent, e52]
  simp
  rw [wrap_i64 (n := left - (xs.length : Int)) (by omega) (by omega)]
  by_cases g : ¬ (xs.length : Int) ≤ left
  · rw [szR_neg (by simp only [szL]; omega)]; simp [show left - (xs.length : Int) < 0 by omega]
  simp only [show ¬ left - (xs.length : Int) < 0 by omega, decide_false, cond_false]
  have := c52_5 xs w [] 0 (by omega) (left - xs.length) (by omega) (by omega)
  simp only [Int.natCast_zero, List.drop_zero] at this
  rw [this]
  simp only [Option.bind_some, readT_int, szL]
  by_cases g2 : (((xs.map SConst.sz).sum : Nat) : Int) ≤ left - xs.length
  · rw [szR_pos g2, szR_pos (by omega)]; simp only [Int.natCast_add]; congr 2; omega
  · rw [szR_neg g2, szR_neg (by omega)]
theorem c33 (xs : List SIns) (left : Int) (w : xs.length ≤ 140737488351232 ∧ ∀ y ∈ xs, y.wf) (h0 : 0 ≤ left) (h1 : left ≤ 1048576) : run E (exec E) false 33 [.list (xs.map SIns.row), .int .i64 left] = some (.int .i64 (szR (szL (fun _ => 0) xs) left)) := by
  have w1 := w.1
  rw [run_ent, e33]
  simp
  rw [wrap_i64 (n := left - (xs.length : Int)) (by omega) (by omega)]
  have hz : szL (fun _ => 0) xs = xs.length := szL_zero xs
  rw [hz]
  by_cases g : (xs.length : Int) ≤ left
  · simp [szR, g, show ¬ left - (xs.length : Int) < 0 by omega]
  · simp [szR, g, show left - (xs.length : Int) < 0 by omega]
theorem c64 (x : SLine) (left : Int) (hw : x.wf) (h0 : 0 ≤ left) (h1 : left ≤ 1048576) : run E (exec E) false 64 [x.d, .int .i64 left] = some (.int .i64 (szR x.sz left)) := by
  obtain ⟨-, w0, w1, -, -, -⟩ := hw
  rw [run_ent, e64]
  simp [SLine.row, ia, ld, st, getRow, rowLen, storeRow, part, D.cells, D.isCell, bld, fillC, bsl, fillR, slS, slL, sliceStr, bound, cut0, srcRows, rowsFit, call_pure, call_view, nilCheck, rInt, rStr, rBool, rByte]
  rw [wrap_i64 (n := left - (x.Class.length : Int)) (by omega) (by omega)]
  by_cases g0 : ¬ (x.Class.length : Int) ≤ left
  · simp [show left - (x.Class.length : Int) < 0 by omega]
    rw [szR_neg (by simp only [SLine.sz]; omega)]
  simp only [show ¬ left - (x.Class.length : Int) < 0 by omega, decide_false, cond_false]
  rw [wrap_i64 (n := left - (x.Class.length : Int) - (x.Method.length : Int)) (by omega) (by omega)]
  by_cases g1 : ¬ (x.Method.length : Int) ≤ left - (x.Class.length : Int)
  · simp [show left - (x.Class.length : Int) - (x.Method.length : Int) < 0 by omega]
    rw [szR_neg (by simp only [SLine.sz]; omega)]
  simp only [show ¬ left - (x.Class.length : Int) - (x.Method.length : Int) < 0 by omega, decide_false, cond_false]
  rw [szR_pos (by simp only [SLine.sz]; omega)]
  simp [SLine.sz]
  try omega
theorem c24_5 (xs : List SLine) (w : xs.length ≤ 140737488351232 ∧ ∀ y ∈ xs, y.wf) (H : Heap) : ∀ i, i ≤ xs.length → ∀ left : Int, 0 ≤ left → left ≤ 1048576 → J E 24 5 [.list (xs.map SLine.row), .int .i64 left, .int .i64 i] H = some (.int .i64 (szR ((xs.drop i).map SLine.sz).sum left), H) := by
  have w1 := w.1
  refine loop_up (P := fun i => _) ?_ fun i hi ih left h0 h1 => ?_
  · intro left h0 h1
    rw [j24_5]
    simp [szR, h0]
  · have hs : ((xs.drop i).map SLine.sz).sum = SLine.sz xs[i] + ((xs.drop (i + 1)).map SLine.sz).sum := by rw [List.drop_eq_getElem_cons hi]; rfl
    generalize ((xs.drop i).map SLine.sz).sum = S0 at hs
    generalize hS1 : ((xs.drop (i + 1)).map SLine.sz).sum = S1 at hs ih
    rw [j24_5]
    simp [ia, ld, st, getRow, rowLen, storeRow, part, D.cells, D.isCell, bld, fillC, bsl, fillR, slS, slL, sliceStr, bound, cut0, srcRows, rowsFit, call_pure, call_view, nilCheck, rInt, rStr, rBool, rByte, hi]
    have q := c64 xs[i] left (w.2 _ (List.getElem_mem hi)) h0 h1
    rw [q]
    simp only [Option.bind_some, bI_lss, asB_bool, bI_add]
    rw [wrap_i64 (n := (i : Int) + 1) (by omega) (by omega)]
    by_cases g : ¬ ((xs[i].sz : Nat) : Int) ≤ left
    · rw [szR_neg g, szR_neg (by omega)]; simp
    have g := Decidable.not_not.mp g
    simp only [szR_pos g, show ¬ left - ((xs[i].sz : Nat) : Int) < 0 by omega, decide_false, cond_false]
    have := ih (left - ((xs[i].sz : Nat) : Int)) (by omega) (by omega)
    simp only [Int.natCast_add, Int.natCast_one] at this
    rw [this]
    by_cases g2 : (S1 : Int) ≤ left - ((xs[i].sz : Nat) : Int)
    · rw [szR_pos g2, szR_pos (by omega)]; congr 3; omega
    · rw [szR_neg g2, szR_neg (by omega)]
theorem c24 (xs : List SLine) (left : Int) (w : xs.length ≤ 140737488351232 ∧ ∀ y ∈ xs, y.wf) (h0 : 0 ≤ left) (h1 : left ≤ 1048576) : run E (exec E) false 24 [.list (xs.map SLine.row), .int .i64 left] = some (.int .i64 (szR (szL SLine.sz xs) left)) := by
  have w1 := w.1
  rw [run_ent, e24]
  simp
  rw [wrap_i64 (n := left - (xs.length : Int)) (by omega) (by omega)]
  by_cases g : ¬ (xs.length : Int) ≤ left
  · rw [szR_neg (by simp only [szL]; omega)]; simp [show left - (xs.length : Int) < 0 by omega]
  simp only [show ¬ left - (xs.length : Int) < 0 by omega, decide_false, cond_false]
  have := c24_5 xs w [] 0 (by omega) (left - xs.length) (by omega) (by omega)
  simp only [Int.natCast_zero, List.drop_zero] at this
  rw [this]
  simp only [Option.bind_some, readT_int, szL]
  by_cases g2 : (((xs.map SLine.sz).sum : Nat) : Int) ≤ left - xs.length
  · rw [szR_pos g2, szR_pos (by omega)]; simp only [Int.natCast_add]; congr 2; omega
  · rw [szR_neg g2, szR_neg (by omega)]
theorem c129 (x : SFile) (left : Int) (hw : x.wf) (h0 : 0 ≤ left) (h1 : left ≤ 1048576) : run E (exec E) false 129 [x.d, .int .i64 left] = some (.int .i64 (szR x.sz left)) := by
  obtain ⟨w0, w1⟩ := hw
  rw [run_ent, e129]
  simp [SFile.row, ia, ld, st, getRow, rowLen, storeRow, part, D.cells, D.isCell, bld, fillC, bsl, fillR, slS, slL, sliceStr, bound, cut0, srcRows, rowsFit, call_pure, call_view, nilCheck, rInt, rStr, rBool, rByte]
  rw [wrap_i64 (n := left - (x.Name.length : Int)) (by omega) (by omega)]
  by_cases g0 : ¬ (x.Name.length : Int) ≤ left
  · simp [show left - (x.Name.length : Int) < 0 by omega]
    rw [szR_neg (by simp only [SFile.sz]; omega)]
  simp only [show ¬ left - (x.Name.length : Int) < 0 by omega, decide_false, cond_false]
  rw [wrap_i64 (n := left - (x.Name.length : Int) - (x.Text.length : Int)) (by omega) (by omega)]
  by_cases g1 : ¬ (x.Text.length : Int) ≤ left - (x.Name.length : Int)
  · simp [show left - (x.Name.length : Int) - (x.Text.length : Int) < 0 by omega]
    rw [szR_neg (by simp only [SFile.sz]; omega)]
  simp only [show ¬ left - (x.Name.length : Int) - (x.Text.length : Int) < 0 by omega, decide_false, cond_false]
  rw [szR_pos (by simp only [SFile.sz]; omega)]
  simp [SFile.sz]
  try omega
theorem c104_5 (xs : List SFile) (w : xs.length ≤ 140737488351232 ∧ ∀ y ∈ xs, y.wf) (H : Heap) : ∀ i, i ≤ xs.length → ∀ left : Int, 0 ≤ left → left ≤ 1048576 → J E 104 5 [.list (xs.map SFile.row), .int .i64 left, .int .i64 i] H = some (.int .i64 (szR ((xs.drop i).map SFile.sz).sum left), H) := by
  have w1 := w.1
  refine loop_up (P := fun i => _) ?_ fun i hi ih left h0 h1 => ?_
  · intro left h0 h1
    rw [j104_5]
    simp [szR, h0]
  · have hs : ((xs.drop i).map SFile.sz).sum = SFile.sz xs[i] + ((xs.drop (i + 1)).map SFile.sz).sum := by rw [List.drop_eq_getElem_cons hi]; rfl
    generalize ((xs.drop i).map SFile.sz).sum = S0 at hs
    generalize hS1 : ((xs.drop (i + 1)).map SFile.sz).sum = S1 at hs ih
    rw [j104_5]
    simp [ia, ld, st, getRow, rowLen, storeRow, part, D.cells, D.isCell, bld, fillC, bsl, fillR, slS, slL, sliceStr, bound, cut0, srcRows, rowsFit, call_pure, call_view, nilCheck, rInt, rStr, rBool, rByte, hi]
    have q := c129 xs[i] left (w.2 _ (List.getElem_mem hi)) h0 h1
    rw [q]
    simp only [Option.bind_some, bI_lss, asB_bool, bI_add]
    rw [wrap_i64 (n := (i : Int) + 1) (by omega) (by omega)]
    by_cases g : ¬ ((xs[i].sz : Nat) : Int) ≤ left
    · rw [szR_neg g, szR_neg (by omega)]; simp
    have g := Decidable.not_not.mp g
    simp only [szR_pos g, show ¬ left - ((xs[i].sz : Nat) : Int) < 0 by omega, decide_false, cond_false]
    have := ih (left - ((xs[i].sz : Nat) : Int)) (by omega) (by omega)
    simp only [Int.natCast_add, Int.natCast_one] at this
    rw [this]
    by_cases g2 : (S1 : Int) ≤ left - ((xs[i].sz : Nat) : Int)
    · rw [szR_pos g2, szR_pos (by omega)]; congr 3; omega
    · rw [szR_neg g2, szR_neg (by omega)]
theorem c104 (xs : List SFile) (left : Int) (w : xs.length ≤ 140737488351232 ∧ ∀ y ∈ xs, y.wf) (h0 : 0 ≤ left) (h1 : left ≤ 1048576) : run E (exec E) false 104 [.list (xs.map SFile.row), .int .i64 left] = some (.int .i64 (szR (szL SFile.sz xs) left)) := by
  have w1 := w.1
  rw [run_ent, e104]
  simp
  rw [wrap_i64 (n := left - (xs.length : Int)) (by omega) (by omega)]
  by_cases g : ¬ (xs.length : Int) ≤ left
  · rw [szR_neg (by simp only [szL]; omega)]; simp [show left - (xs.length : Int) < 0 by omega]
  simp only [show ¬ left - (xs.length : Int) < 0 by omega, decide_false, cond_false]
  have := c104_5 xs w [] 0 (by omega) (left - xs.length) (by omega) (by omega)
  simp only [Int.natCast_zero, List.drop_zero] at this
  rw [this]
  simp only [Option.bind_some, readT_int, szL]
  by_cases g2 : (((xs.map SFile.sz).sum : Nat) : Int) ≤ left - xs.length
  · rw [szR_pos g2, szR_pos (by omega)]; simp only [Int.natCast_add]; congr 2; omega
  · rw [szR_neg g2, szR_neg (by omega)]
theorem c130 (x : SWay) (left : Int) (hw : x.wf) (h0 : 0 ≤ left) (h1 : left ≤ 1048576) : run E (exec E) false 130 [x.d, .int .i64 left] = some (.int .i64 (szR x.sz left)) := by
  obtain ⟨w0, -⟩ := hw
  rw [run_ent, e130]
  simp [SWay.row, ia, ld, st, getRow, rowLen, storeRow, part, D.cells, D.isCell, bld, fillC, bsl, fillR, slS, slL, sliceStr, bound, cut0, srcRows, rowsFit, call_pure, call_view, nilCheck, rInt, rStr, rBool, rByte]
  rw [wrap_i64 (n := left - (x.Name.length : Int)) (by omega) (by omega)]
  by_cases g0 : ¬ (x.Name.length : Int) ≤ left
  · simp [show left - (x.Name.length : Int) < 0 by omega]
    rw [szR_neg (by simp only [SWay.sz]; omega)]
  simp only [show ¬ left - (x.Name.length : Int) < 0 by omega, decide_false, cond_false]
  rw [szR_pos (by simp only [SWay.sz]; omega)]
  simp [SWay.sz]
  try omega
theorem c105_5 (xs : List SWay) (w : xs.length ≤ 140737488351232 ∧ ∀ y ∈ xs, y.wf) (H : Heap) : ∀ i, i ≤ xs.length → ∀ left : Int, 0 ≤ left → left ≤ 1048576 → J E 105 5 [.list (xs.map SWay.row), .int .i64 left, .int .i64 i] H = some (.int .i64 (szR ((xs.drop i).map SWay.sz).sum left), H) := by
  have w1 := w.1
  refine loop_up (P := fun i => _) ?_ fun i hi ih left h0 h1 => ?_
  · intro left h0 h1
    rw [j105_5]
    simp [szR, h0]
  · have hs : ((xs.drop i).map SWay.sz).sum = SWay.sz xs[i] + ((xs.drop (i + 1)).map SWay.sz).sum := by rw [List.drop_eq_getElem_cons hi]; rfl
    generalize ((xs.drop i).map SWay.sz).sum = S0 at hs
    generalize hS1 : ((xs.drop (i + 1)).map SWay.sz).sum = S1 at hs ih
    rw [j105_5]
    simp [ia, ld, st, getRow, rowLen, storeRow, part, D.cells, D.isCell, bld, fillC, bsl, fillR, slS, slL, sliceStr, bound, cut0, srcRows, rowsFit, call_pure, call_view, nilCheck, rInt, rStr, rBool, rByte, hi]
    have q := c130 xs[i] left (w.2 _ (List.getElem_mem hi)) h0 h1
    rw [q]
    simp only [Option.bind_some, bI_lss, asB_bool, bI_add]
    rw [wrap_i64 (n := (i : Int) + 1) (by omega) (by omega)]
    by_cases g : ¬ ((xs[i].sz : Nat) : Int) ≤ left
    · rw [szR_neg g, szR_neg (by omega)]; simp
    have g := Decidable.not_not.mp g
    simp only [szR_pos g, show ¬ left - ((xs[i].sz : Nat) : Int) < 0 by omega, decide_false, cond_false]
    have := ih (left - ((xs[i].sz : Nat) : Int)) (by omega) (by omega)
    simp only [Int.natCast_add, Int.natCast_one] at this
    rw [this]
    by_cases g2 : (S1 : Int) ≤ left - ((xs[i].sz : Nat) : Int)
    · rw [szR_pos g2, szR_pos (by omega)]; congr 3; omega
    · rw [szR_neg g2, szR_neg (by omega)]
theorem c105 (xs : List SWay) (left : Int) (w : xs.length ≤ 140737488351232 ∧ ∀ y ∈ xs, y.wf) (h0 : 0 ≤ left) (h1 : left ≤ 1048576) : run E (exec E) false 105 [.list (xs.map SWay.row), .int .i64 left] = some (.int .i64 (szR (szL SWay.sz xs) left)) := by
  have w1 := w.1
  rw [run_ent, e105]
  simp
  rw [wrap_i64 (n := left - (xs.length : Int)) (by omega) (by omega)]
  by_cases g : ¬ (xs.length : Int) ≤ left
  · rw [szR_neg (by simp only [szL]; omega)]; simp [show left - (xs.length : Int) < 0 by omega]
  simp only [show ¬ left - (xs.length : Int) < 0 by omega, decide_false, cond_false]
  have := c105_5 xs w [] 0 (by omega) (left - xs.length) (by omega) (by omega)
  simp only [Int.natCast_zero, List.drop_zero] at this
  rw [this]
  simp only [Option.bind_some, readT_int, szL]
  by_cases g2 : (((xs.map SWay.sz).sum : Nat) : Int) ≤ left - xs.length
  · rw [szR_pos g2, szR_pos (by omega)]; simp only [Int.natCast_add]; congr 2; omega
  · rw [szR_neg g2, szR_neg (by omega)]
theorem c84 (x : SLoader) (left : Int) (hw : x.wf) (h0 : 0 ≤ left) (h1 : left ≤ 1048576) : run E (exec E) false 84 [x.d, .int .i64 left] = some (.int .i64 (szR x.sz left)) := by
  obtain ⟨w0, w1, -⟩ := hw
  rw [run_ent, e84]
  simp [SLoader.row, ia, ld, st, getRow, rowLen, storeRow, part, D.cells, D.isCell, bld, fillC, bsl, fillR, slS, slL, sliceStr, bound, cut0, srcRows, rowsFit, call_pure, call_view, nilCheck, rInt, rStr, rBool, rByte]
  rw [c104 x.Files (left) w0 (by omega) (by omega)]
  simp only [Option.bind_some, bI_lss, asB_bool]
  by_cases g0 : ¬ ((szL SFile.sz x.Files : Nat) : Int) ≤ left
  · rw [szR_neg g0, szR_neg (s := x.sz) (by simp only [SLoader.sz]; omega)]; simp
  have g0 := Decidable.not_not.mp g0
  simp only [szR_pos g0, show ¬ left - ((szL SFile.sz x.Files : Nat) : Int) < 0 by omega, decide_false, cond_false, Option.bind_some, fa_ptr, getBlk_zero, List.getElem?_cons_zero, List.getElem?_cons_succ, Nat.zero_add, optAll_cons, optAll_nil, readT_int, readT_list9]
  rw [c105 x.Ways (left - ((szL SFile.sz x.Files : Nat) : Int)) w1 (by omega) (by omega)]
  simp only [Option.bind_some, bI_lss, asB_bool]
  by_cases g1 : ¬ ((szL SWay.sz x.Ways : Nat) : Int) ≤ left - ((szL SFile.sz x.Files : Nat) : Int)
  · rw [szR_neg g1, szR_neg (s := x.sz) (by simp only [SLoader.sz]; omega)]; simp
  have g1 := Decidable.not_not.mp g1
  simp only [szR_pos g1, show ¬ left - ((szL SFile.sz x.Files : Nat) : Int) - ((szL SWay.sz x.Ways : Nat) : Int) < 0 by omega, decide_false, cond_false, Option.bind_some, fa_ptr, getBlk_zero, List.getElem?_cons_zero, List.getElem?_cons_succ, Nat.zero_add, optAll_cons, optAll_nil, readT_int, readT_list9]
  rw [szR_pos (by simp only [SLoader.sz]; omega)]
  simp [SLoader.sz]
  try omega
theorem c45_5 (xs : List SLoader) (w : xs.length ≤ 140737488351232 ∧ ∀ y ∈ xs, y.wf) (H : Heap) : ∀ i, i ≤ xs.length → ∀ left : Int, 0 ≤ left → left ≤ 1048576 → J E 45 5 [.list (xs.map SLoader.row), .int .i64 left, .int .i64 i] H = some (.int .i64 (szR ((xs.drop i).map SLoader.sz).sum left), H) := by
  have w1 := w.1
  refine loop_up (P := fun i => _) ?_ fun i hi ih left h0 h1 => ?_
  · intro left h0 h1
    rw [j45_5]
    simp [szR, h0]
  · have hs : ((xs.drop i).map SLoader.sz).sum = SLoader.sz xs[i] + ((xs.drop (i + 1)).map SLoader.sz).sum := by rw [List.drop_eq_getElem_cons hi]; rfl
    generalize ((xs.drop i).map SLoader.sz).sum = S0 at hs
    generalize hS1 : ((xs.drop (i + 1)).map SLoader.sz).sum = S1 at hs ih
    rw [j45_5]
    simp [ia, ld, st, getRow, rowLen, storeRow, part, D.cells, D.isCell, bld, fillC, bsl, fillR, slS, slL, sliceStr, bound, cut0, srcRows, rowsFit, call_pure, call_view, nilCheck, rInt, rStr, rBool, rByte, hi]
    have q := c84 xs[i] left (w.2 _ (List.getElem_mem hi)) h0 h1
    rw [q]
    simp only [Option.bind_some, bI_lss, asB_bool, bI_add]
    rw [wrap_i64 (n := (i : Int) + 1) (by omega) (by omega)]
    by_cases g : ¬ ((xs[i].sz : Nat) : Int) ≤ left
    · rw [szR_neg g, szR_neg (by omega)]; simp
    have g := Decidable.not_not.mp g
    simp only [szR_pos g, show ¬ left - ((xs[i].sz : Nat) : Int) < 0 by omega, decide_false, cond_false]
    have := ih (left - ((xs[i].sz : Nat) : Int)) (by omega) (by omega)
    simp only [Int.natCast_add, Int.natCast_one] at this
    rw [this]
    by_cases g2 : (S1 : Int) ≤ left - ((xs[i].sz : Nat) : Int)
    · rw [szR_pos g2, szR_pos (by omega)]; congr 3; omega
    · rw [szR_neg g2, szR_neg (by omega)]
theorem c45 (xs : List SLoader) (left : Int) (w : xs.length ≤ 140737488351232 ∧ ∀ y ∈ xs, y.wf) (h0 : 0 ≤ left) (h1 : left ≤ 1048576) : run E (exec E) false 45 [.list (xs.map SLoader.row), .int .i64 left] = some (.int .i64 (szR (szL SLoader.sz xs) left)) := by
  have w1 := w.1
  rw [run_ent, e45]
  simp
  rw [wrap_i64 (n := left - (xs.length : Int)) (by omega) (by omega)]
  by_cases g : ¬ (xs.length : Int) ≤ left
  · rw [szR_neg (by simp only [szL]; omega)]; simp [show left - (xs.length : Int) < 0 by omega]
  simp only [show ¬ left - (xs.length : Int) < 0 by omega, decide_false, cond_false]
  have := c45_5 xs w [] 0 (by omega) (left - xs.length) (by omega) (by omega)
  simp only [Int.natCast_zero, List.drop_zero] at this
  rw [this]
  simp only [Option.bind_some, readT_int, szL]
  by_cases g2 : (((xs.map SLoader.sz).sum : Nat) : Int) ≤ left - xs.length
  · rw [szR_pos g2, szR_pos (by omega)]; simp only [Int.natCast_add]; congr 2; omega
  · rw [szR_neg g2, szR_neg (by omega)]
end Go.Ev.Ytohkcloiokhglaa
