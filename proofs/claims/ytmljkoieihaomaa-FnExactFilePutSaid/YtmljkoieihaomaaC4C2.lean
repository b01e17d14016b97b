/- Contracts. -/
import Derived.Test.YtmljkoieihaomaaC4C1
namespace Go.Ev.Ytmljkoieihaomaa
set_option linter.unusedVariables false
set_option linter.unusedSimpArgs false
open Go.Ev
/-! Classes that are the same: the other way. -/
theorem c99_4 (a b : List SConst) (wa : a.length ≤ 140737488351232) (hlen : a.length = b.length) (H : Heap) : ∀ i, i ≤ a.length → J E 99 4 [.list (a.map SConst.row), .list (b.map SConst.row), .int .i64 i] H = some (.bool (decide (a.drop i = b.drop i)), H) := by
  apply loop_up
  · rw [j99_4]; simp [hlen]
  · intro i hi ih
    have hi' : i < b.length := by omega
    have hlt : ((i : Nat) : Int) < (a.length : Int) := by omega
    rw [j99_4]
    simp only [lnL_list, List.length_map, bI_lss, hlt, decide_true, cond_true, asB_bool, Option.bind_some, ia_row (row := SConst.row) (esz := 4) (fun x => rfl) hi, ia_row (row := SConst.row) (esz := 4) (fun x => rfl) hi', ld_el]
    rw [show part (a[i]).row (0, 4, true) = some (a[i]).d from rfl, show part (b[i]).row (0, 4, true) = some (b[i]).d from rfl]
    simp only [Option.bind_some, SConst_dneq, bI_add, asB_bool]
    rw [wrap_i64 (n := (i : Int) + 1) (by omega) (by omega), drop_dec hi hi']
    by_cases h : a[i] = b[i]
    · simp only [h, decide_true, Bool.not_true, cond_false, Bool.true_and]
      exact ih
    · simp [h]
theorem c99 (a b : List SConst) (wa : a.length ≤ 140737488351232) : run E (exec E) false 99 [.list (a.map SConst.row), .list (b.map SConst.row)] = some (.bool (decide (a = b))) := by
  rw [run_ent, e99]
  by_cases h : a.length = b.length
  · have := c99_4 a b wa h [] 0 (by omega)
    simp only [Int.natCast_zero] at this
    simp [h, this]
  · have : a ≠ b := fun e => h (by rw [e])
    simp [show ¬ (a.length : Int) = b.length by omega, this]
theorem c158_4 (a b : List SKind) (wa : a.length ≤ 140737488351232) (hlen : a.length = b.length) (H : Heap) : ∀ i, i ≤ a.length → J E 158 4 [.list (a.map SKind.row), .list (b.map SKind.row), .int .i64 i] H = some (.bool (decide (a.drop i = b.drop i)), H) := by
  apply loop_up
  · rw [j158_4]; simp [hlen]
  · intro i hi ih
    have hi' : i < b.length := by omega
    have hlt : ((i : Nat) : Int) < (a.length : Int) := by omega
    rw [j158_4]
    simp only [lnL_list, List.length_map, bI_lss, hlt, decide_true, cond_true, asB_bool, Option.bind_some, ia_row (row := SKind.row) (esz := 2) (fun x => rfl) hi, ia_row (row := SKind.row) (esz := 2) (fun x => rfl) hi', ld_el]
    rw [show part (a[i]).row (0, 2, true) = some (a[i]).d from rfl, show part (b[i]).row (0, 2, true) = some (b[i]).d from rfl]
    simp only [Option.bind_some, SKind_dneq, bI_add, asB_bool]
    rw [wrap_i64 (n := (i : Int) + 1) (by omega) (by omega), drop_dec hi hi']
    by_cases h : a[i] = b[i]
    · simp only [h, decide_true, Bool.not_true, cond_false, Bool.true_and]
      exact ih
    · simp [h]
theorem c158 (a b : List SKind) (wa : a.length ≤ 140737488351232) : run E (exec E) false 158 [.list (a.map SKind.row), .list (b.map SKind.row)] = some (.bool (decide (a = b))) := by
  rw [run_ent, e158]
  by_cases h : a.length = b.length
  · have := c158_4 a b wa h [] 0 (by omega)
    simp only [Int.natCast_zero] at this
    simp [h, this]
  · have : a ≠ b := fun e => h (by rw [e])
    simp [show ¬ (a.length : Int) = b.length by omega, this]
theorem c139_4 (a b : List SFrame) (wa : a.length ≤ 140737488351232) (w : ∀ x ∈ a, x.wf) (hlen : a.length = b.length) (H : Heap) : ∀ i, i ≤ a.length → J E 139 4 [.list (a.map SFrame.row), .list (b.map SFrame.row), .int .i64 i] H = some (.bool (decide (a.drop i = b.drop i)), H) := by
  apply loop_up
  · rw [j139_4]; simp [hlen]
  · intro i hi ih
    have hi' : i < b.length := by omega
    have hlt : ((i : Nat) : Int) < (a.length : Int) := by omega
    have wx := w _ (List.getElem_mem hi)
    have ha := fun H : Heap => ia_row (row := SFrame.row) (esz := 3) (fun x => rfl) (H := H) hi
    have hb := fun H : Heap => ia_row (row := SFrame.row) (esz := 3) (fun x => rfl) (H := H) hi'
    rw [j139_4, drop_dec hi hi']
    simp only [lnL_list, List.length_map, bI_lss, hlt, decide_true, cond_true, asB_bool, Option.bind_some]
    rw [j139_6]
    simp only [ha, hb, fa_el, ld_el, Option.bind_some]
    generalize a[i] = x at *
    generalize b[i] = y at *
    have r0 : ∀ x : SFrame, part x.row (0 + 0, 1, false) = some (.int .i64 x.At) := fun x => rfl
    have r1 : ∀ x : SFrame, part x.row (0 + 1, 1, false) = some (.list (x.Locals.map SKind.row)) := fun x => rfl
    have r2 : ∀ x : SFrame, part x.row (0 + 2, 1, false) = some (.list (x.Stack.map SKind.row)) := fun x => rfl
    have hxy : decide (x = y) = (decide (x.At = y.At) && (decide (x.Locals = y.Locals) && decide (x.Stack = y.Stack))) := by
      rw [Bool.eq_iff_iff]; cases x; cases y; simp
    simp only [r0, r1, r2, Option.bind_some, bI_neq, asB_bool]
    rw [hxy]
    by_cases e0 : x.At = y.At
    · simp only [e0, decide_true, Bool.not_true, cond_false, ha, hb, fa_el, ld_el, Option.bind_some, r1, Bool.true_and]
      rw [pure_call (ts := [.list (x.Locals.map SKind.row), .list (y.Locals.map SKind.row)]) (by simp) (c158 _ _ wx.2.1.1)]
      simp only [Option.bind_some, unOp_not, asB_bool]
      by_cases e1 : x.Locals = y.Locals
      · simp only [e1, decide_true, Bool.not_true, cond_false, ha, hb, fa_el, ld_el, Option.bind_some, r2, Bool.true_and]
        rw [pure_call (ts := [.list (x.Stack.map SKind.row), .list (y.Stack.map SKind.row)]) (by simp) (c158 _ _ wx.2.2.1)]
        simp only [Option.bind_some, unOp_not, asB_bool]
        by_cases e2 : x.Stack = y.Stack
        · simp only [e2, decide_true, Bool.not_true, cond_false, bI_add, Option.bind_some, Bool.true_and]
          rw [wrap_i64 (n := (i : Int) + 1) (by omega) (by omega)]
          exact ih
        · simp [e2]
      · simp [e1]
    · simp [e0]
theorem c139 (a b : List SFrame) (wa : a.length ≤ 140737488351232) (w : ∀ x ∈ a, x.wf) : run E (exec E) false 139 [.list (a.map SFrame.row), .list (b.map SFrame.row)] = some (.bool (decide (a = b))) := by
  rw [run_ent, e139]
  by_cases h : a.length = b.length
  · have := c139_4 a b wa w h [] 0 (by omega)
    simp only [Int.natCast_zero] at this
    simp [h, this]
  · have : a ≠ b := fun e => h (by rw [e])
    simp [show ¬ (a.length : Int) = b.length by omega, this]
theorem meq (a b : SMethod) : decide (a = b) = (decide (a.Flags = b.Flags) && (decide (a.Name = b.Name) && (decide (a.Desc = b.Desc) && (decide (a.Deep = b.Deep) && (decide (a.Locals = b.Locals) && (decide (a.Code = b.Code) && (decide (a.Traps = b.Traps) && decide (a.Frames = b.Frames)))))))) := by
  rw [Bool.eq_iff_iff]; cases a; cases b; simp
theorem c100_4 (a b : SMethod) (w : a.wf) (H : Heap) (h0 : getBlk H 0 = some [a.row]) (h1 : getBlk H 1 = some [b.row]) (hlen : a.Traps.length = b.Traps.length) : ∀ i, i ≤ a.Traps.length → J E 100 4 [.ptr 0 0 0, .ptr 1 0 0, .int .i64 i] H = some (.bool (decide (a.Traps.drop i = b.Traps.drop i) && decide (a.Frames = b.Frames)), H) := by
  have m6 : ∀ a : SMethod, a.row[0 + 6]? = some (.list (a.Traps.map STrap.row)) := fun a => rfl
  have m7 : ∀ a : SMethod, a.row[0 + 7]? = some (.list (a.Frames.map SFrame.row)) := fun a => rfl
  obtain ⟨-, -, -, -, -, -, ⟨w1, w2⟩, w3, w4⟩ := w
  apply loop_up
  · rw [j100_4]
    simp only [fa_ptr, ld_in0 h0, ld_in0 h1, m6, m7, lnL_list, List.length_map, bI_lss, Int.lt_irrefl, decide_false, Option.bind_some, asB_bool, cond_false, List.drop_length]
    rw [List.drop_of_length_le (show b.Traps.length ≤ a.Traps.length by omega)]
    rw [pure_call (ts := [.list (a.Frames.map SFrame.row), .list (b.Frames.map SFrame.row)]) (by simp) (c139 _ _ w3 w4)]
    simp
  · intro i hi ih
    have hi' : i < b.Traps.length := by omega
    have hlt : ((i : Nat) : Int) < (a.Traps.length : Int) := by omega
    rw [j100_4, drop_dec hi hi']
    simp only [fa_ptr, ld_in0 h0, ld_in0 h1, m6, lnL_list, List.length_map, bI_lss, hlt, decide_true, cond_true, asB_bool, Option.bind_some, ia_row (row := STrap.row) (esz := 4) (fun x => rfl) hi, ia_row (row := STrap.row) (esz := 4) (fun x => rfl) hi', ld_el]
    rw [show part (a.Traps[i]).row (0, 4, true) = some (a.Traps[i]).d from rfl, show part (b.Traps[i]).row (0, 4, true) = some (b.Traps[i]).d from rfl]
    simp only [Option.bind_some, STrap_dneq, bI_add, asB_bool]
    rw [wrap_i64 (n := (i : Int) + 1) (by omega) (by omega)]
    by_cases h : a.Traps[i] = b.Traps[i]
    · simp only [h, decide_true, Bool.not_true, cond_false, Bool.true_and]
      exact ih
    · simp [h]
theorem c100 (a b : SMethod) (w : a.wf) : run E (exec E) false 100 [a.d, b.d] = some (.bool (decide (a = b))) := by
  have h0 : getBlk ([some [a.row], some [b.row]] : Heap) 0 = some [a.row] := rfl
  have h1 : getBlk ([some [a.row], some [b.row]] : Heap) 1 = some [b.row] := rfl
  have m0 : ∀ a : SMethod, a.row[0 + 0]? = some (.int .i64 a.Flags) := fun a => rfl
  have m1 : ∀ a : SMethod, a.row[0 + 1]? = some (.int .i64 a.Name) := fun a => rfl
  have m2 : ∀ a : SMethod, a.row[0 + 2]? = some (.int .i64 a.Desc) := fun a => rfl
  have m3 : ∀ a : SMethod, a.row[0 + 3]? = some (.int .i64 a.Deep) := fun a => rfl
  have m4 : ∀ a : SMethod, a.row[0 + 4]? = some (.int .i64 a.Locals) := fun a => rfl
  have m5 : ∀ a : SMethod, a.row[0 + 5]? = some (.str a.Code) := fun a => rfl
  have m6 : ∀ a : SMethod, a.row[0 + 6]? = some (.list (a.Traps.map STrap.row)) := fun a => rfl
  rw [run_ent, e100, alloc_eq _ _ _ rfl, alloc_eq _ _ _ rfl]
  rw [show ([] ++ [some [D.cells a.d]] ++ [some [D.cells b.d]] : Heap) = [some [a.row], some [b.row]] from rfl, show ([] : Heap).length = 0 from rfl, show ([] ++ [some [D.cells a.d]] : Heap).length = 1 from rfl]
  rw [j100_1, meq]
  simp only [fa_ptr, ld_in0 h0, ld_in0 h1, m0, m1, m2, m3, m4, m5, m6, Option.bind_some, bI_neq, bS_neq, asB_bool, lnL_list, List.length_map]
  by_cases e0 : ¬ a.Flags = b.Flags
  · simp [e0]
  have e0 := Decidable.not_not.mp e0
  by_cases e1 : ¬ a.Name = b.Name
  · simp [e0, e1]
  have e1 := Decidable.not_not.mp e1
  by_cases e2 : ¬ a.Desc = b.Desc
  · simp [e0, e1, e2]
  have e2 := Decidable.not_not.mp e2
  by_cases e3 : ¬ a.Deep = b.Deep
  · simp [e0, e1, e2, e3]
  have e3 := Decidable.not_not.mp e3
  by_cases e4 : ¬ a.Locals = b.Locals
  · simp [e0, e1, e2, e3, e4]
  have e4 := Decidable.not_not.mp e4
  by_cases e5 : ¬ a.Code = b.Code
  · simp [e0, e1, e2, e3, e4, e5]
  have e5 := Decidable.not_not.mp e5
  simp only [e0, e1, e2, e3, e4, e5, decide_true, Bool.not_true, cond_false, Bool.true_and]
  by_cases hl : a.Traps.length = b.Traps.length
  · simp only [show (a.Traps.length : Int) = b.Traps.length by omega, decide_true, Bool.not_true, cond_false]
    rw [show D.int .i64 0 = D.int .i64 ((0 : Nat) : Int) from rfl, c100_4 a b w _ h0 h1 hl 0 (by omega)]
    simp
  · have : ¬ a.Traps = b.Traps := fun e => hl (by rw [e])
    simp [show ¬ (a.Traps.length : Int) = b.Traps.length by omega, this]

end Go.Ev.Ytmljkoieihaomaa
