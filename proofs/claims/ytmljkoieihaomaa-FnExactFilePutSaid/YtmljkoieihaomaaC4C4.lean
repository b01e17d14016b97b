/- Contracts. -/
import Derived.Test.YtmljkoieihaomaaC4C3
namespace Go.Ev.Ytmljkoieihaomaa
set_option linter.unusedVariables false
set_option linter.unusedSimpArgs false
open Go.Ev
/-! Writing a file: the program's way. -/
theorem put2c (n : Int) : run E (exec E) false 105 [.int .i64 n] = some (.str (pTwo n)) := c105 n
theorem c106_3 (l : List SKind) (hl : l.length ≤ 140737488351232) : ∀ i, i ≤ l.length → ∀ (acc : List UInt8) (H : Heap), acc.length + ((l.drop i).flatMap (pKind pTwo)).length ≤ 4611686018427387904 → ∃ H', J E 106 3 [.str acc, .list (l.map SKind.row), .int .i64 l.length, .int .i64 i] H = some (.str (acc ++ (l.drop i).flatMap (pKind pTwo)), H') := by
  apply loop_up
  · intro acc H hM
    rw [j106_3]
    simp only [bI_lss, Int.lt_irrefl, decide_false, Option.bind_some, asB_bool, cond_false, List.drop_length, ret_one, List.flatMap_nil, List.append_nil]
    exact ⟨H, rfl⟩
  · intro i hi ih acc H hM
    have hlt : ((i : Nat) : Int) < (l.length : Int) := by omega
    have hia := fun H : Heap => ia_row (row := SKind.row) (esz := 2) (fun x => rfl) (H := H) hi
    rw [List.drop_eq_getElem_cons hi, List.flatMap_cons] at hM ⊢
    rw [j106_3]
    simp only [bI_lss, hlt, decide_true, Option.bind_some, asB_bool, cond_true, hia, ld_el]
    generalize l[i] = x at *
    simp only [List.length_append] at hM
    simp only [show part x.row (0, 2, true) = some x.d from rfl, Option.bind_some]
    rw [alloc_eq _ _ _ rfl, put_loc (z := 2) H [.int .i64 0, .int .i64 0] x.row rfl rfl rfl]
    have hb : getBlk (H ++ [some [x.row]]) H.length = some [x.row] := getBlk_self _ _ []
    have r0 : x.row[0 + 0]? = some (.int .i64 x.Tag) := rfl
    have r1 : x.row[0 + 1]? = some (.int .i64 x.Class) := rfl
    simp only [Option.bind_some, fa_ptr, ld_in0 hb, r0]
    rw [int_call (c104 x.Tag)]
    simp only [Option.bind_some]
    have h1 : 1 ≤ (pKind pTwo x).length := by unfold pKind; split <;> simp [pOne]
    rw [add1 (by omega)]
    simp only [Option.bind_some, ld_in0 hb, r0, r1, bI_eql, asB_bool]
    have nx : ∀ acc' : List UInt8, acc' = acc ++ pKind pTwo x → ∃ H', J E 106 8 [.str acc', .list (l.map SKind.row), .int .i64 l.length, .int .i64 i] (H ++ [some [x.row]]) = some (.str (acc ++ (pKind pTwo x ++ (l.drop (i + 1)).flatMap (pKind pTwo))), H') := by
      intro acc' e
      rw [j106_8, bI_add, wrap_i64 (n := (i : Int) + 1) (by omega) (by omega)]
      simp only [Option.bind_some]
      obtain ⟨H', e2⟩ := ih acc' (H ++ [some [x.row]]) (by rw [e]; simp only [List.length_append]; omega)
      rw [show ((i : Int) + 1) = ((i + 1 : Nat) : Int) by omega, e2, e]
      exact ⟨H', by simp⟩
    by_cases h3 : x.Tag = 3
    · simp only [h3, decide_true, cond_true]
      rw [int_call (put2c x.Class)]
      simp only [Option.bind_some]
      have h2 : (pKind pTwo x).length = 3 := by simp [pKind, h3, pOne, pTwo]
      rw [add2 (by simp [pOne, pTwo]; omega)]
      simp only [Option.bind_some]
      exact nx _ (by simp [pKind, h3])
    · simp only [h3, decide_false, cond_false]
      exact nx _ (by simp [pKind, h3])
theorem c106 (l : List SKind) (hl : l.length ≤ 140737488351232) (hM : (pKinds pTwo l).length ≤ 4611686018427387904) : run E (exec E) false 106 [.list (l.map SKind.row)] = some (.str (pKinds pTwo l)) := by
  unfold pKinds at *
  rw [run_ent, e106]
  simp only [lnL_list, List.length_map, Option.bind_some]
  rw [int_call (c104 _)]
  simp only [Option.bind_some]
  obtain ⟨H', e⟩ := c106_3 l hl 0 (by omega) [u8 l.length] [] (by simp only [List.drop_zero, List.length_append, pOne_len, List.length_cons, List.length_nil] at hM ⊢; omega)
  rw [show D.int .i64 0 = D.int .i64 ((0 : Nat) : Int) from rfl, e]
  simp [pOne]
section
theorem c61_39 (ml : D) (n i : Nat) (M : SMethod) (w : M.wf) (R : List UInt8) (nx : ∀ (acc : List UInt8) (H : Heap), acc.length + R.length ≤ 4611686018427387904 → ∃ H', J E 61 43 [.str acc, ml, .int .i64 n, .int .i64 i] H = some (.str (acc ++ R), H')) : ∀ j, j ≤ M.Frames.length → ∀ (acc : List UInt8) (H : Heap), acc.length + ((M.Frames.drop j).flatMap (pFrame pTwo)).length + R.length ≤ 4611686018427387904 → ∃ H', J E 61 39 [.str acc, ml, .int .i64 n, .int .i64 i, .list (M.Frames.map SFrame.row), .int .i64 M.Frames.length, .int .i64 j] H = some (.str (acc ++ (M.Frames.drop j).flatMap (pFrame pTwo) ++ R), H') := by
  obtain ⟨-, -, -, -, -, -, -, w1, w2⟩ := w
  apply loop_up
  · intro acc H hM
    rw [j61_39]
    simp only [List.drop_length, List.flatMap_nil, List.length_nil] at hM
    simp only [bI_lss, Int.lt_irrefl, decide_false, Option.bind_some, asB_bool, cond_false, List.drop_length, List.flatMap_nil, List.append_nil]
    exact nx acc H (by omega)
  · intro j hj ih acc H hM
    have hlt : ((j : Nat) : Int) < (M.Frames.length : Int) := by omega
    have wx := w2 _ (List.getElem_mem hj)
    have hia := fun H : Heap => ia_row (row := SFrame.row) (esz := 3) (fun x => rfl) (H := H) hj
    rw [List.drop_eq_getElem_cons hj, List.flatMap_cons] at hM ⊢
    rw [j61_39]
    simp only [bI_lss, hlt, decide_true, Option.bind_some, asB_bool, cond_true, hia, ld_el]
    generalize M.Frames[j] = x at *
    simp only [List.length_append, pFrame, pTwo_len] at hM
    simp only [show part x.row (0, 3, true) = some x.d from rfl, Option.bind_some]
    rw [alloc_eq _ _ _ rfl, put_loc (z := 3) H [.int .i64 0, .sl0, .sl0] x.row rfl rfl rfl]
    have hb : getBlk (H ++ [some [x.row]]) H.length = some [x.row] := getBlk_self _ _ []
    have r0 : x.row[0 + 0]? = some (.int .i64 x.At) := rfl
    have r1 : x.row[0 + 1]? = some (.list (x.Locals.map SKind.row)) := rfl
    have r2 : x.row[0 + 2]? = some (.list (x.Stack.map SKind.row)) := rfl
    simp only [Option.bind_some, fa_ptr, ld_in0 hb, r0]
    rw [int_call (put2c x.At)]
    simp only [Option.bind_some, ld_in0 hb, r1]
    rw [pure_call (ts := [.list (x.Locals.map SKind.row)]) (by simp) (c106 _ wx.2.1.1 (by omega))]
    simp only [Option.bind_some]
    rw [add2 (by rw [pTwo_len]; omega)]
    simp only [Option.bind_some, ld_in0 hb, r2]
    rw [pure_call (ts := [.list (x.Stack.map SKind.row)]) (by simp) (c106 _ wx.2.2.1 (by omega))]
    simp only [Option.bind_some]
    rw [add2 (by simp only [List.length_append, pTwo_len]; omega)]
    simp only [Option.bind_some]
    rw [add2 (by simp only [List.length_append, pTwo_len]; omega)]
    simp only [Option.bind_some, bI_add]
    rw [wrap_i64 (n := (j : Int) + 1) (by omega) (by omega)]
    obtain ⟨H', e⟩ := ih (acc ++ (pTwo x.At ++ pKinds pTwo x.Locals ++ pKinds pTwo x.Stack)) (H ++ [some [x.row]]) (by simp only [List.length_append, pTwo_len]; omega)
    rw [show ((j : Int) + 1) = ((j + 1 : Nat) : Int) by omega, e]
    exact ⟨H', by simp [pFrame]⟩
def mTailI (m : SMethod) : List UInt8 := pOne m.Frames.length ++ m.Frames.flatMap (pFrame pTwo)
theorem c61_33 (ml : D) (n i b : Nat) (M : SMethod) (w : M.wf) (R : List UInt8) (nx : ∀ (acc : List UInt8) (H : Heap), acc.length + R.length ≤ 4611686018427387904 → ∃ H', J E 61 43 [.str acc, ml, .int .i64 n, .int .i64 i] H = some (.str (acc ++ R), H')) : ∀ j, j ≤ M.Traps.length → ∀ (acc : List UInt8) (H : Heap), getBlk H b = some [M.row] → acc.length + ((M.Traps.drop j).flatMap (pTrap pTwo)).length + (mTailI M).length + R.length ≤ 4611686018427387904 → ∃ H', J E 61 33 [.str acc, .ptr b 0 0, ml, .int .i64 n, .int .i64 i, .list (M.Traps.map STrap.row), .int .i64 M.Traps.length, .int .i64 j] H = some (.str (acc ++ (M.Traps.drop j).flatMap (pTrap pTwo) ++ mTailI M ++ R), H') := by
  have m7 : M.row[0 + 7]? = some (.list (M.Frames.map SFrame.row)) := rfl
  have w0 := w
  obtain ⟨-, -, -, -, -, -, ⟨w1, w2⟩, w3, -⟩ := w
  apply loop_up
  · intro acc H h hM
    rw [j61_33]
    simp only [List.drop_length, List.flatMap_nil, List.length_nil, mTailI, List.length_append, pOne_len] at hM
    simp only [bI_lss, Int.lt_irrefl, decide_false, Option.bind_some, asB_bool, cond_false, List.drop_length, List.flatMap_nil, List.append_nil, fa_ptr, ld_in0 h, m7, lnL_list, List.length_map]
    rw [int_call (c104 _)]
    simp only [Option.bind_some]
    rw [add1 (by omega)]
    simp only [Option.bind_some, ld_in0 h, m7, lnL_list, List.length_map]
    obtain ⟨H', e⟩ := c61_39 ml n i M w0 R nx 0 (by omega) (acc ++ pOne M.Frames.length) H (by simp only [List.drop_zero, List.length_append, pOne_len]; omega)
    simp only [List.drop_zero, Int.natCast_zero] at e
    rw [e]
    exact ⟨H', by simp [mTailI]⟩
  · intro j hj ih acc H h hM
    have hlt : ((j : Nat) : Int) < (M.Traps.length : Int) := by omega
    have hia := fun H : Heap => ia_row (row := STrap.row) (esz := 4) (fun x => rfl) (H := H) hj
    rw [List.drop_eq_getElem_cons hj, List.flatMap_cons] at hM ⊢
    rw [j61_33]
    simp only [bI_lss, hlt, decide_true, Option.bind_some, asB_bool, cond_true, hia, ld_el]
    generalize M.Traps[j] = x at *
    simp only [List.length_append, pTrap, pTwo_len] at hM
    simp only [show part x.row (0, 4, true) = some x.d from rfl, Option.bind_some]
    rw [alloc_eq _ _ _ rfl, put_loc (z := 4) H [.int .i64 0, .int .i64 0, .int .i64 0, .int .i64 0] x.row rfl rfl rfl]
    have hb : getBlk (H ++ [some [x.row]]) H.length = some [x.row] := getBlk_self _ _ []
    have r0 : x.row[0 + 0]? = some (.int .i64 x.From) := rfl
    have r1 : x.row[0 + 1]? = some (.int .i64 x.To) := rfl
    have r2 : x.row[0 + 2]? = some (.int .i64 x.At) := rfl
    have r3 : x.row[0 + 3]? = some (.int .i64 x.Class) := rfl
    simp only [Option.bind_some, fa_ptr, ld_in0 hb, r0]
    rw [int_call (put2c x.From)]
    simp only [Option.bind_some, ld_in0 hb, r1]
    rw [int_call (put2c x.To)]
    simp only [Option.bind_some]
    rw [add2 (by simp only [pTwo_len]; omega)]
    simp only [Option.bind_some, ld_in0 hb, r2]
    rw [int_call (put2c x.At)]
    simp only [Option.bind_some]
    rw [add2 (by simp only [List.length_append, pTwo_len]; omega)]
    simp only [Option.bind_some, ld_in0 hb, r3]
    rw [int_call (put2c x.Class)]
    simp only [Option.bind_some]
    rw [add2 (by simp only [List.length_append, pTwo_len]; omega)]
    simp only [Option.bind_some]
    rw [add2 (by simp only [List.length_append, pTwo_len]; omega)]
    simp only [Option.bind_some, bI_add]
    rw [wrap_i64 (n := (j : Int) + 1) (by omega) (by omega)]
    obtain ⟨H', e⟩ := ih (acc ++ (pTwo x.From ++ pTwo x.To ++ pTwo x.At ++ pTwo x.Class)) (H ++ [some [x.row]]) (getBlk_app h) (by simp only [List.length_append, pTwo_len]; omega)
    rw [show ((j : Int) + 1) = ((j + 1 : Nat) : Int) by omega, e]
    exact ⟨H', by simp [pTrap]⟩
theorem c61_27 (ms : List SMethod) (hl : ms.length ≤ 140737488351232) (w : ∀ m ∈ ms, m.wf) : ∀ i, i ≤ ms.length → ∀ (acc : List UInt8) (H : Heap), acc.length + ((ms.drop i).flatMap (pMethod pTwo isAbs)).length ≤ 4611686018427387904 → ∃ H', J E 61 27 [.str acc, .list (ms.map SMethod.row), .int .i64 ms.length, .int .i64 i] H = some (.str (acc ++ (ms.drop i).flatMap (pMethod pTwo isAbs)), H') := by
  apply loop_up
  · intro acc H hM
    rw [j61_27]
    simp only [bI_lss, Int.lt_irrefl, decide_false, Option.bind_some, asB_bool, cond_false, List.drop_length, ret_one, List.flatMap_nil, List.append_nil]
    exact ⟨H, rfl⟩
  · intro i hi ih acc H hM
    have hlt : ((i : Nat) : Int) < (ms.length : Int) := by omega
    have wx := w _ (List.getElem_mem hi)
    have hia := fun H : Heap => ia_row (row := SMethod.row) (esz := 8) (fun x => rfl) (H := H) hi
    rw [List.drop_eq_getElem_cons hi, List.flatMap_cons] at hM ⊢
    rw [j61_27]
    simp only [bI_lss, hlt, decide_true, Option.bind_some, asB_bool, cond_true, hia, ld_el]
    generalize ms[i] = m at *
    simp only [List.length_append] at hM
    simp only [show part m.row (0, 8, true) = some m.d from rfl, Option.bind_some]
    rw [alloc_eq _ _ _ rfl, put_loc (z := 8) H [.int .i64 0, .int .i64 0, .int .i64 0, .int .i64 0, .int .i64 0, .str [], .sl0, .sl0] m.row rfl rfl rfl]
    have hb : getBlk (H ++ [some [m.row]]) H.length = some [m.row] := getBlk_self _ _ []
    have m0 : m.row[0 + 0]? = some (.int .i64 m.Flags) := rfl
    have m1 : m.row[0 + 1]? = some (.int .i64 m.Name) := rfl
    have m2 : m.row[0 + 2]? = some (.int .i64 m.Desc) := rfl
    have m3 : m.row[0 + 3]? = some (.int .i64 m.Deep) := rfl
    have m4 : m.row[0 + 4]? = some (.int .i64 m.Locals) := rfl
    have m5 : m.row[0 + 5]? = some (.str m.Code) := rfl
    have m6 : m.row[0 + 6]? = some (.list (m.Traps.map STrap.row)) := rfl
    have nx : ∀ (acc' : List UInt8) (H : Heap), acc'.length + ((ms.drop (i + 1)).flatMap (pMethod pTwo isAbs)).length ≤ 4611686018427387904 → ∃ H', J E 61 43 [.str acc', .list (ms.map SMethod.row), .int .i64 ms.length, .int .i64 i] H = some (.str (acc' ++ (ms.drop (i + 1)).flatMap (pMethod pTwo isAbs)), H') := by
      intro acc' H hb'
      rw [j61_43, bI_add, wrap_i64 (n := (i : Int) + 1) (by omega) (by omega)]
      simp only [Option.bind_some]
      rw [show ((i : Int) + 1) = ((i + 1 : Nat) : Int) by omega]
      exact ih acc' H hb'
    have hlen : 5 ≤ (pMethod pTwo isAbs m).length := by
      unfold pMethod
      split <;> simp [pOne, pTwo] <;> omega
    simp only [Option.bind_some, fa_ptr, ld_in0 hb, m0]
    rw [int_call (c104 m.Flags)]
    simp only [Option.bind_some, ld_in0 hb, m1]
    rw [int_call (put2c m.Name)]
    simp only [Option.bind_some]
    rw [add2 (by simp [pTwo])]
    simp only [Option.bind_some, ld_in0 hb, m2]
    rw [int_call (put2c m.Desc)]
    simp only [Option.bind_some]
    rw [add2 (by simp [pTwo])]
    simp only [Option.bind_some]
    rw [add2 (by simp only [List.length_append, List.length_cons, List.length_nil, pTwo_len]; omega)]
    simp only [Option.bind_some, ld_in0 hb, m0]
    rw [int_call (c84 m.Flags)]
    simp only [Option.bind_some, asB_bool]
    cases ha : isAbs m.Flags with
    | true =>
      simp only [cond_true]
      have hp : pMethod pTwo isAbs m = [u8 m.Flags] ++ pTwo m.Name ++ pTwo m.Desc := by simp [pMethod, ha, pOne]
      obtain ⟨H', e⟩ := nx (acc ++ ([u8 m.Flags] ++ pTwo m.Name ++ pTwo m.Desc)) (H ++ [some [m.row]]) (by rw [← hp]; simp only [List.length_append]; omega)
      rw [e]
      exact ⟨H', by simp [hp]⟩
    | false =>
      have hp : pMethod pTwo isAbs m = [u8 m.Flags] ++ pTwo m.Name ++ pTwo m.Desc ++ ([u8 m.Deep] ++ pOne m.Locals ++ pTwo m.Code.length ++ m.Code ++ pOne m.Traps.length) ++ m.Traps.flatMap (pTrap pTwo) ++ mTailI m := by
        simp [pMethod, ha, pOne, mTailI]
      have hq := congrArg List.length hp
      simp only [List.length_append, pTwo_len, pOne_len, List.length_cons, List.length_nil] at hq
      have wc := wx.2.2.2.2.2.1
      simp only [cond_false, ld_in0 hb, m3, Option.bind_some]
      rw [int_call (c104 m.Deep)]
      simp only [Option.bind_some, ld_in0 hb, m4]
      rw [int_call (c104 m.Locals)]
      simp only [Option.bind_some]
      rw [add1 (by simp)]
      simp only [Option.bind_some, ld_in0 hb, m5, lnS_str]
      rw [int_call (put2c _)]
      simp only [Option.bind_some]
      rw [add2 (by simp [pOne, pTwo])]
      simp only [Option.bind_some, ld_in0 hb, m5]
      rw [add2 (by simp only [List.length_append, List.length_cons, List.length_nil, pTwo_len, pOne_len]; omega)]
      simp only [Option.bind_some, ld_in0 hb, m6, lnL_list, List.length_map]
      rw [int_call (c104 _)]
      simp only [Option.bind_some]
      rw [add1 (by simp only [List.length_append, List.length_cons, List.length_nil, pTwo_len, pOne_len]; omega)]
      simp only [Option.bind_some]
      rw [add2 (by simp only [List.length_append, List.length_cons, List.length_nil, pTwo_len, pOne_len]; omega)]
      simp only [Option.bind_some, ld_in0 hb, m6, lnL_list, List.length_map]
      obtain ⟨H', e⟩ := c61_33 (.list (ms.map SMethod.row)) ms.length i H.length m wx _ nx 0 (by omega) (acc ++ ([u8 m.Flags] ++ pTwo m.Name ++ pTwo m.Desc) ++ ([u8 m.Deep] ++ pOne m.Locals ++ pTwo m.Code.length ++ m.Code ++ pOne m.Traps.length)) (H ++ [some [m.row]]) hb (by simp only [List.drop_zero, List.length_append, List.length_cons, List.length_nil, pTwo_len, pOne_len]; omega)
      simp only [List.drop_zero, Int.natCast_zero] at e
      rw [e]
      exact ⟨H', by simp [hp]⟩
end

end Go.Ev.Ytmljkoieihaomaa
