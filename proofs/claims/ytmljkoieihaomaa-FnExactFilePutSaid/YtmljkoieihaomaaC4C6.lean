/- Contracts. -/
import Derived.Test.YtmljkoieihaomaaC4C5
namespace Go.Ev.Ytmljkoieihaomaa
set_option linter.unusedVariables false
set_option linter.unusedSimpArgs false
open Go.Ev
/-! Small classes, and classes that are the same: the program's way. -/
def smF (f : SFrame) : Bool := decide (f.Locals.length ≤ 8) && decide (f.Stack.length ≤ 8)
def smM (m : SMethod) : Bool := decide (m.Code.length ≤ 120) && (decide (m.Traps.length ≤ 3) && (decide (m.Frames.length ≤ 8) && m.Frames.all smF))
def smC (c : SClass) : Bool := decide (c.Pool.length ≤ 60) && (decide (c.Faces.length ≤ 3) && (decide (c.Fields.length ≤ 5) && (decide (c.Methods.length ≤ 6) && (c.Pool.all (fun x => decide (x.Text.length ≤ 255)) && c.Methods.all smM))))
theorem smC_of {c : SClass} (h : smallC c) : smC c = true := by
  obtain ⟨h1, h2, h3, h4, h5, h6⟩ := h
  simp only [smC, h1, h2, h3, h4, decide_true, Bool.true_and, Bool.and_eq_true, List.all_eq_true, decide_eq_true_eq]
  refine ⟨h5, fun m hm => ?_⟩
  obtain ⟨m1, m2, m3, m4⟩ := h6 m hm
  simp only [smM, m1, m2, m3, decide_true, Bool.true_and, List.all_eq_true]
  intro f hf
  simp [smF, m4 f hf]
theorem gtr_not {n : Nat} {m : Nat} : decide ((m : Int) < (n : Int)) = !decide (n ≤ m) := by
  rw [Bool.eq_iff_iff]; simp <;> omega
theorem c60_15 (ml : D) (n i : Nat) (M : SMethod) (w : M.Frames.length ≤ 140737488351232) (R : Bool) (nx : ∀ H : Heap, ∃ H', J E 60 10 [ml, .int .i64 n, .int .i64 (i + 1 : Nat)] H = some (.bool R, H')) (hi : i + 1 < 140737488351236) : ∀ j, j ≤ M.Frames.length → ∀ H : Heap, ∃ H', J E 60 15 [ml, .int .i64 n, .int .i64 i, .list (M.Frames.map SFrame.row), .int .i64 M.Frames.length, .int .i64 j] H = some (.bool ((M.Frames.drop j).all smF && R), H') := by
  apply loop_up
  · intro H
    rw [j60_15]
    simp only [bI_lss, Int.lt_irrefl, decide_false, Option.bind_some, asB_bool, cond_false, List.drop_length, List.all_nil, Bool.true_and, bI_add]
    rw [wrap_i64 (n := (i : Int) + 1) (by omega) (by omega)]
    exact nx H
  · intro j hj ih H
    have hlt : ((j : Nat) : Int) < (M.Frames.length : Int) := by omega
    have hia := fun H : Heap => ia_row (row := SFrame.row) (esz := 3) (fun x => rfl) (H := H) hj
    rw [List.drop_eq_getElem_cons hj, List.all_cons]
    rw [j60_15]
    simp only [bI_lss, hlt, decide_true, Option.bind_some, asB_bool, cond_true, hia, ld_el]
    generalize M.Frames[j] = x at *
    simp only [show part x.row (0, 3, true) = some x.d from rfl, Option.bind_some]
    rw [alloc_eq _ _ _ rfl, put_loc (z := 3) H [.int .i64 0, .sl0, .sl0] x.row rfl rfl rfl]
    have hb : getBlk (H ++ [some [x.row]]) H.length = some [x.row] := getBlk_self _ _ []
    have r1 : x.row[0 + 1]? = some (.list (x.Locals.map SKind.row)) := rfl
    have r2 : x.row[0 + 2]? = some (.list (x.Stack.map SKind.row)) := rfl
    simp only [Option.bind_some, fa_ptr, ld_in0 hb, r1, r2, lnL_list, List.length_map, bI_gtr, asB_bool, bI_add]
    rw [show (8 : Int) = ((8 : Nat) : Int) from rfl, gtr_not, gtr_not]
    by_cases h1 : x.Locals.length ≤ 8
    · by_cases h2 : x.Stack.length ≤ 8
      · simp only [smF, h1, h2, decide_true, Bool.not_true, cond_false, Bool.true_and]
        rw [wrap_i64 (n := (j : Int) + 1) (by omega) (by omega), show ((j : Int) + 1) = ((j + 1 : Nat) : Int) by omega]
        exact ih _
      · simp only [smF, h1, h2, decide_true, decide_false, Bool.not_true, Bool.not_false, cond_false, cond_true, Bool.true_and, Bool.false_and, Bool.and_false]
        exact ⟨_, rfl⟩
    · simp only [smF, h1, decide_false, Bool.not_false, cond_true, Bool.false_and]
      exact ⟨_, rfl⟩
theorem c60_10 (ms : List SMethod) (hl : ms.length ≤ 140737488351232) (w : ∀ m ∈ ms, m.wf) : ∀ i, i ≤ ms.length → ∀ H : Heap, ∃ H', J E 60 10 [.list (ms.map SMethod.row), .int .i64 ms.length, .int .i64 i] H = some (.bool ((ms.drop i).all smM), H') := by
  apply loop_up
  · intro H
    rw [j60_10]
    simp only [bI_lss, Int.lt_irrefl, decide_false, Option.bind_some, asB_bool, cond_false, List.drop_length, List.all_nil]
    exact ⟨H, rfl⟩
  · intro i hi ih H
    have hlt : ((i : Nat) : Int) < (ms.length : Int) := by omega
    have wx := w _ (List.getElem_mem hi)
    have hia := fun H : Heap => ia_row (row := SMethod.row) (esz := 8) (fun x => rfl) (H := H) hi
    rw [List.drop_eq_getElem_cons hi, List.all_cons]
    rw [j60_10]
    simp only [bI_lss, hlt, decide_true, Option.bind_some, asB_bool, cond_true, hia, ld_el]
    generalize ms[i] = m at *
    simp only [show part m.row (0, 8, true) = some m.d from rfl, Option.bind_some]
    rw [alloc_eq _ _ _ rfl, put_loc (z := 8) H [.int .i64 0, .int .i64 0, .int .i64 0, .int .i64 0, .int .i64 0, .str [], .sl0, .sl0] m.row rfl rfl rfl]
    have hb : getBlk (H ++ [some [m.row]]) H.length = some [m.row] := getBlk_self _ _ []
    have m5 : m.row[0 + 5]? = some (.str m.Code) := rfl
    have m6 : m.row[0 + 6]? = some (.list (m.Traps.map STrap.row)) := rfl
    have m7 : m.row[0 + 7]? = some (.list (m.Frames.map SFrame.row)) := rfl
    simp only [Option.bind_some, fa_ptr, ld_in0 hb, m5, m6, m7, lnS_str, lnL_list, List.length_map, bI_gtr, asB_bool]
    rw [show (120 : Int) = ((120 : Nat) : Int) from rfl, gtr_not, show (3 : Int) = ((3 : Nat) : Int) from rfl, gtr_not, show (8 : Int) = ((8 : Nat) : Int) from rfl, gtr_not]
    obtain ⟨H', e⟩ := c60_15 (.list (ms.map SMethod.row)) ms.length i m wx.2.2.2.2.2.2.2.1 ((ms.drop (i + 1)).all smM) (fun H => ih H) (by omega) 0 (by omega) (H ++ [some [m.row]])
    simp only [List.drop_zero, Int.natCast_zero] at e
    unfold smM at e ⊢
    by_cases h1 : m.Code.length ≤ 120
    · by_cases h2 : m.Traps.length ≤ 3
      · by_cases h3 : m.Frames.length ≤ 8
        · simp only [h1, h2, h3, decide_true, Bool.not_true, cond_false, Bool.true_and, e]
          exact ⟨_, rfl⟩
        · simp only [h1, h2, h3, decide_true, decide_false, Bool.not_true, Bool.not_false, cond_false, cond_true, Bool.true_and, Bool.false_and, Bool.and_false]
          exact ⟨_, rfl⟩
      · simp only [h1, h2, decide_true, decide_false, Bool.not_true, Bool.not_false, cond_false, cond_true, Bool.true_and, Bool.false_and, Bool.and_false]
        exact ⟨_, rfl⟩
    · simp only [h1, decide_false, Bool.not_false, cond_true, Bool.false_and]
      exact ⟨_, rfl⟩
theorem c60_4 (c : SClass) (w : c.wf) : ∀ i, i ≤ c.Pool.length → ∀ H : Heap, getBlk H 0 = some [c.row] → ∃ H', J E 60 4 [.ptr 0 0 0, .list (c.Pool.map SConst.row), .int .i64 c.Pool.length, .int .i64 i] H = some (.bool ((c.Pool.drop i).all (fun x => decide (x.Text.length ≤ 255)) && c.Methods.all smM), H') := by
  have m6 : c.row[0 + 6]? = some (.list (c.Methods.map SMethod.row)) := rfl
  obtain ⟨w6, w7⟩ := w.2.2.2.2.2.2
  have w1 := w.1.1
  apply loop_up
  · intro H h
    rw [j60_4]
    simp only [fa_ptr, ld_in0 h, m6, lnL_list, List.length_map, bI_lss, Int.lt_irrefl, decide_false, Option.bind_some, asB_bool, cond_false, List.drop_length, List.all_nil, Bool.true_and]
    exact c60_10 c.Methods w6 w7 0 (by omega) H
  · intro i hi ih H h
    have hlt : ((i : Nat) : Int) < (c.Pool.length : Int) := by omega
    have hia := fun H : Heap => ia_row (row := SConst.row) (esz := 4) (fun x => rfl) (H := H) hi
    rw [List.drop_eq_getElem_cons hi, List.all_cons]
    rw [j60_4]
    simp only [bI_lss, hlt, decide_true, Option.bind_some, asB_bool, cond_true, hia, ld_el]
    generalize c.Pool[i] = x at *
    simp only [show part x.row (0, 4, true) = some x.d from rfl, Option.bind_some]
    rw [alloc_eq _ _ _ rfl, put_loc (z := 4) H [.int .i64 0, .str [], .int .i64 0, .int .i64 0] x.row rfl rfl rfl]
    have hb : getBlk (H ++ [some [x.row]]) H.length = some [x.row] := getBlk_self _ _ []
    have r1 : x.row[0 + 1]? = some (.str x.Text) := rfl
    simp only [Option.bind_some, fa_ptr, ld_in0 hb, r1, lnS_str, bI_gtr, asB_bool, bI_add]
    rw [show (255 : Int) = ((255 : Nat) : Int) from rfl, gtr_not]
    by_cases h1 : x.Text.length ≤ 255
    · simp only [h1, decide_true, Bool.not_true, cond_false, Bool.true_and]
      rw [wrap_i64 (n := (i : Int) + 1) (by omega) (by omega), show ((i : Int) + 1) = ((i + 1 : Nat) : Int) by omega]
      exact ih _ (getBlk_app h)
    · simp only [h1, decide_false, Bool.not_false, cond_true, Bool.false_and]
      exact ⟨_, rfl⟩
theorem c60 (c : SClass) (w : c.wf) : run E (exec E) false 60 [c.d] = some (.bool (smC c)) := by
  have h : getBlk ([some [c.row]] : Heap) 0 = some [c.row] := rfl
  have m0 : c.row[0 + 0]? = some (.list (c.Pool.map SConst.row)) := rfl
  have m4 : c.row[0 + 4]? = some (.list (c.Faces.map rInt)) := rfl
  have m5 : c.row[0 + 5]? = some (.list (c.Fields.map SField.row)) := rfl
  have m6 : c.row[0 + 6]? = some (.list (c.Methods.map SMethod.row)) := rfl
  rw [run_ent, e60, alloc_eq _ _ _ rfl]
  rw [show ([] : Heap) ++ [some [D.cells c.d]] = [some [c.row]] from rfl, show ([] : Heap).length = 0 from rfl]
  simp only [fa_ptr, Option.bind_some, ld_in0 h, m0, m4, m5, m6, lnL_list, List.length_map, bI_gtr, asB_bool]
  rw [show (60 : Int) = ((60 : Nat) : Int) from rfl, gtr_not, show (3 : Int) = ((3 : Nat) : Int) from rfl, gtr_not, show (5 : Int) = ((5 : Nat) : Int) from rfl, gtr_not, show (6 : Int) = ((6 : Nat) : Int) from rfl, gtr_not]
  obtain ⟨H', e⟩ := c60_4 c w 0 (by omega) _ h
  simp only [List.drop_zero, Int.natCast_zero] at e
  unfold smC
  by_cases h1 : c.Pool.length ≤ 60
  · by_cases h2 : c.Faces.length ≤ 3
    · by_cases h3 : c.Fields.length ≤ 5
      · by_cases h4 : c.Methods.length ≤ 6
        · simp only [h1, h2, h3, h4, decide_true, Bool.not_true, cond_false, Bool.true_and, e, Option.bind_some, readT_bool]
        · simp [h1, h2, h3, h4]
      · simp [h1, h2, h3]
    · simp [h1, h2]
  · simp [h1]
theorem feq (a b : SFrame) : decide (a = b) = (decide (a.At = b.At) && (decide (a.Locals = b.Locals) && decide (a.Stack = b.Stack))) := by
  rw [Bool.eq_iff_iff]; cases a; cases b; simp
theorem c144 (a b : SFrame) (w : a.wf) : run E (exec E) false 144 [a.d, b.d] = some (.bool (decide (a = b))) := by
  have h0 : getBlk ([some [a.row], some [b.row]] : Heap) 0 = some [a.row] := rfl
  have h1 : getBlk ([some [a.row], some [b.row]] : Heap) 1 = some [b.row] := rfl
  have r0 : ∀ x : SFrame, x.row[0 + 0]? = some (.int .i64 x.At) := fun x => rfl
  have r1 : ∀ x : SFrame, x.row[0 + 1]? = some (.list (x.Locals.map SKind.row)) := fun x => rfl
  have r2 : ∀ x : SFrame, x.row[0 + 2]? = some (.list (x.Stack.map SKind.row)) := fun x => rfl
  rw [run_ent, e144, alloc_eq _ _ _ rfl, alloc_eq _ _ _ rfl]
  rw [show ([] ++ [some [D.cells a.d]] ++ [some [D.cells b.d]] : Heap) = [some [a.row], some [b.row]] from rfl, show ([] : Heap).length = 0 from rfl, show ([] ++ [some [D.cells a.d]] : Heap).length = 1 from rfl, feq]
  simp only [fa_ptr, ld_in0 h0, ld_in0 h1, r0, r1, r2, Option.bind_some, bI_eql, asB_bool]
  rw [pure_call (ts := [.list (a.Locals.map SKind.row), .list (b.Locals.map SKind.row)]) (by simp) (c145 _ _ w.2.1.1)]
  by_cases e0 : a.At = b.At
  · by_cases e1 : a.Locals = b.Locals
    · simp only [e0, e1, decide_true, cond_true, Option.bind_some, asB_bool, Bool.true_and, ld_in0 h0, ld_in0 h1, r2]
      rw [pure_call (ts := [.list (a.Stack.map SKind.row), .list (b.Stack.map SKind.row)]) (by simp) (c145 _ _ w.2.2.1)]
      simp
    · simp [e0, e1]
  · simp [e0]
theorem c111 (a b : SMethod) (w : a.wf) : run E (exec E) false 111 [a.d, b.d] = some (.bool (decide (a = b))) := by
  have h0 : getBlk ([some [a.row], some [b.row]] : Heap) 0 = some [a.row] := rfl
  have h1 : getBlk ([some [a.row], some [b.row]] : Heap) 1 = some [b.row] := rfl
  have r0 : ∀ x : SMethod, x.row[0 + 0]? = some (.int .i64 x.Flags) := fun x => rfl
  have r1 : ∀ x : SMethod, x.row[0 + 1]? = some (.int .i64 x.Name) := fun x => rfl
  have r2 : ∀ x : SMethod, x.row[0 + 2]? = some (.int .i64 x.Desc) := fun x => rfl
  have r3 : ∀ x : SMethod, x.row[0 + 3]? = some (.int .i64 x.Deep) := fun x => rfl
  have r4 : ∀ x : SMethod, x.row[0 + 4]? = some (.int .i64 x.Locals) := fun x => rfl
  have r5 : ∀ x : SMethod, x.row[0 + 5]? = some (.str x.Code) := fun x => rfl
  have r6 : ∀ x : SMethod, x.row[0 + 6]? = some (.list (x.Traps.map STrap.row)) := fun x => rfl
  have r7 : ∀ x : SMethod, x.row[0 + 7]? = some (.list (x.Frames.map SFrame.row)) := fun x => rfl
  obtain ⟨-, -, -, -, -, -, w1, w2, w3⟩ := w
  rw [run_ent, e111, alloc_eq _ _ _ rfl, alloc_eq _ _ _ rfl]
  rw [show ([] ++ [some [D.cells a.d]] ++ [some [D.cells b.d]] : Heap) = [some [a.row], some [b.row]] from rfl, show ([] : Heap).length = 0 from rfl, show ([] ++ [some [D.cells a.d]] : Heap).length = 1 from rfl, meq, j111_1]
  simp only [fa_ptr, ld_in0 h0, ld_in0 h1, r0, r1, r2, r3, r4, r5, r6, Option.bind_some, bI_eql, bS_eql, asB_bool]
  rw [pure_call (ts := [.list (a.Traps.map STrap.row), .list (b.Traps.map STrap.row)]) (by simp) (c142 _ _ w1.1)]
  by_cases e0 : ¬ a.Flags = b.Flags
  · simp [e0]
  have e0 := Decidable.not_not.mp e0
  by_cases e1 : ¬ a.Name = b.Name
  · simp [e0, e1]
  have e1 := Decidable.not_not.mp e1
  by_cases e2 : ¬ a.Desc = b.Desc
  · simp [e0, e1, e2]
  have e2 := Decidable.not_not.mp e2
  by_cases e3 : ¬ a.Deep = b.Deep
  · simp [e0, e1, e2, e3]
  have e3 := Decidable.not_not.mp e3
  by_cases e4 : ¬ a.Locals = b.Locals
  · simp [e0, e1, e2, e3, e4]
  have e4 := Decidable.not_not.mp e4
  by_cases e5 : ¬ a.Code = b.Code
  · simp [e0, e1, e2, e3, e4, e5]
  have e5 := Decidable.not_not.mp e5
  by_cases e6 : ¬ a.Traps = b.Traps
  · simp [e0, e1, e2, e3, e4, e5, e6]
  have e6 := Decidable.not_not.mp e6
  simp only [e0, e1, e2, e3, e4, e5, e6, decide_true, cond_true, Option.bind_some, asB_bool, Bool.true_and, ld_in0 h0, ld_in0 h1, r7, call_raw]
  obtain ⟨K', e⟩ := c143 a.Frames b.Frames w2 144 [] [some [a.row], some [b.row]] (fun x hx y hy K => ⟨K, pure_call (ts := [x.d, y.d]) (by simp [SFrame.readD]) (c144 x y (w3 x hx))⟩)
  rw [e]
  simp
theorem c62 (a b : SClass) (w : a.wf) : run E (exec E) false 62 [a.d, b.d] = some (.bool (decide (a = b))) := by
  have h0 : getBlk ([some [a.row], some [b.row]] : Heap) 0 = some [a.row] := rfl
  have h1 : getBlk ([some [a.row], some [b.row]] : Heap) 1 = some [b.row] := rfl
  have m0 : ∀ a : SClass, a.row[0 + 0]? = some (.list (a.Pool.map SConst.row)) := fun a => rfl
  have m1 : ∀ a : SClass, a.row[0 + 1]? = some (.int .i64 a.Flags) := fun a => rfl
  have m2 : ∀ a : SClass, a.row[0 + 2]? = some (.int .i64 a.Name) := fun a => rfl
  have m3 : ∀ a : SClass, a.row[0 + 3]? = some (.int .i64 a.Super) := fun a => rfl
  have m4 : ∀ a : SClass, a.row[0 + 4]? = some (.list (a.Faces.map rInt)) := fun a => rfl
  have m5 : ∀ a : SClass, a.row[0 + 5]? = some (.list (a.Fields.map SField.row)) := fun a => rfl
  have m6 : ∀ a : SClass, a.row[0 + 6]? = some (.list (a.Methods.map SMethod.row)) := fun a => rfl
  obtain ⟨w0, -, -, -, w4, w5, w6, w7⟩ := w
  rw [run_ent, e62, alloc_eq _ _ _ rfl, alloc_eq _ _ _ rfl]
  rw [show ([] ++ [some [D.cells a.d]] ++ [some [D.cells b.d]] : Heap) = [some [a.row], some [b.row]] from rfl, show ([] : Heap).length = 0 from rfl, show ([] ++ [some [D.cells a.d]] : Heap).length = 1 from rfl, ceq, j62_1]
  simp only [fa_ptr, ld_in0 h0, ld_in0 h1, m0, Option.bind_some]
  rw [pure_call (ts := [.list (a.Pool.map SConst.row), .list (b.Pool.map SConst.row)]) (by simp) (c107 _ _ w0.1)]
  simp only [Option.bind_some, asB_bool, ld_in0 h0, ld_in0 h1, m1, m2, m3, m4, bI_eql]
  rw [pure_call (ts := [.list (a.Faces.map rInt), .list (b.Faces.map rInt)]) (by simp) (c108 _ _ w4.1)]
  by_cases e0 : ¬ a.Pool = b.Pool
  · simp [e0]
  have e0 := Decidable.not_not.mp e0
  by_cases e1 : ¬ a.Flags = b.Flags
  · simp [e0, e1]
  have e1 := Decidable.not_not.mp e1
  by_cases e2 : ¬ a.Name = b.Name
  · simp [e0, e1, e2]
  have e2 := Decidable.not_not.mp e2
  by_cases e3 : ¬ a.Super = b.Super
  · simp [e0, e1, e2, e3]
  have e3 := Decidable.not_not.mp e3
  by_cases e4 : ¬ a.Faces = b.Faces
  · simp [e0, e1, e2, e3, e4]
  have e4 := Decidable.not_not.mp e4
  simp only [e0, e1, e2, e3, e4, decide_true, cond_true, Option.bind_some, asB_bool, Bool.true_and, ld_in0 h0, ld_in0 h1, m5]
  rw [pure_call (ts := [.list (a.Fields.map SField.row), .list (b.Fields.map SField.row)]) (by simp) (c109 _ _ w5.1)]
  by_cases e5 : ¬ a.Fields = b.Fields
  · simp [e5]
  have e5 := Decidable.not_not.mp e5
  simp only [e5, decide_true, cond_true, Option.bind_some, asB_bool, Bool.true_and, ld_in0 h0, ld_in0 h1, m6, call_raw]
  obtain ⟨K', e⟩ := c110 a.Methods b.Methods w6 111 [] [some [a.row], some [b.row]] (fun x hx y hy K => ⟨K, pure_call (ts := [x.d, y.d]) (by simp [SMethod.readD]) (c111 x y (w7 x hx))⟩)
  rw [e]
  simp

end Go.Ev.Ytmljkoieihaomaa
