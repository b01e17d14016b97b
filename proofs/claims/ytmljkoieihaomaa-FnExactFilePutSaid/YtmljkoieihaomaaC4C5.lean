/- Contracts. -/
import Derived.Test.YtmljkoieihaomaaC4C4
namespace Go.Ev.Ytmljkoieihaomaa
set_option linter.unusedVariables false
set_option linter.unusedSimpArgs false
open Go.Ev
/-! Writing a file: the program's way, the class. -/
def cI21 (c : SClass) : List UInt8 := pOne c.Methods.length ++ c.Methods.flatMap (pMethod pTwo isAbs)
def cI15 (c : SClass) : List UInt8 := pOne c.Fields.length ++ c.Fields.flatMap (pField pTwo) ++ cI21 c
def cI3 (c : SClass) : List UInt8 := pOne c.Flags ++ pTwo c.Name ++ pTwo c.Super ++ pOne c.Faces.length ++ c.Faces.flatMap pTwo ++ cI15 c
theorem pClass_partsI (c : SClass) : pClass pTwo isAbs c = stow ++ pOne c.Pool.length ++ c.Pool.flatMap (pConst pTwo) ++ cI3 c := by
  simp [pClass, cI3, cI15, cI21]
theorem c61_21 (c : SClass) (w : c.wf) : ∀ i, i ≤ c.Fields.length → ∀ (acc : List UInt8) (H : Heap), getBlk H 0 = some [c.row] → acc.length + ((c.Fields.drop i).flatMap (pField pTwo)).length + (cI21 c).length ≤ 4611686018427387904 → ∃ H', J E 61 21 [.ptr 0 0 0, .str acc, .list (c.Fields.map SField.row), .int .i64 c.Fields.length, .int .i64 i] H = some (.str (acc ++ (c.Fields.drop i).flatMap (pField pTwo) ++ cI21 c), H') := by
  have m6 : c.row[0 + 6]? = some (.list (c.Methods.map SMethod.row)) := rfl
  obtain ⟨w1, w2⟩ := w.2.2.2.2.2.1
  obtain ⟨w6, w7⟩ := w.2.2.2.2.2.2
  apply loop_up
  · intro acc H h hM
    rw [j61_21]
    simp only [fa_ptr, ld_in0 h, m6, lnL_list, List.length_map, bI_lss, Int.lt_irrefl, decide_false, Option.bind_some, asB_bool, cond_false, List.drop_length, List.flatMap_nil, List.append_nil]
    simp only [List.drop_length, List.flatMap_nil, List.length_nil, cI21, List.length_append, pOne_len] at hM
    rw [int_call (c104 _)]
    simp only [Option.bind_some]
    rw [add1 (by omega)]
    simp only [Option.bind_some, ld_in0 h, m6, lnL_list, List.length_map]
    obtain ⟨H', e⟩ := c61_27 c.Methods w6 w7 0 (by omega) (acc ++ pOne c.Methods.length) H (by simp only [List.drop_zero, List.length_append, pOne_len]; omega)
    simp only [List.drop_zero, Int.natCast_zero] at e
    rw [e]
    exact ⟨H', by simp [cI21]⟩
  · intro i hi ih acc H h hM
    have hlt : ((i : Nat) : Int) < (c.Fields.length : Int) := by omega
    have hia := fun H : Heap => ia_row (row := SField.row) (esz := 3) (fun x => rfl) (H := H) hi
    rw [List.drop_eq_getElem_cons hi, List.flatMap_cons] at hM ⊢
    rw [j61_21]
    simp only [bI_lss, hlt, decide_true, Option.bind_some, asB_bool, cond_true, hia, ld_el]
    generalize c.Fields[i] = x at *
    simp only [List.length_append, pField, pOne_len, pTwo_len] at hM
    simp only [show part x.row (0, 3, true) = some x.d from rfl, Option.bind_some]
    rw [alloc_eq _ _ _ rfl, put_loc (z := 3) H [.int .i64 0, .int .i64 0, .int .i64 0] x.row rfl rfl rfl]
    have hb : getBlk (H ++ [some [x.row]]) H.length = some [x.row] := getBlk_self _ _ []
    have r0 : x.row[0 + 0]? = some (.int .i64 x.Flags) := rfl
    have r1 : x.row[0 + 1]? = some (.int .i64 x.Name) := rfl
    have r2 : x.row[0 + 2]? = some (.int .i64 x.Typ) := rfl
    simp only [Option.bind_some, fa_ptr, ld_in0 hb, r0]
    rw [int_call (c104 _)]
    simp only [Option.bind_some, ld_in0 hb, r1]
    rw [int_call (put2c _)]
    simp only [Option.bind_some]
    rw [add2 (by simp [pTwo])]
    simp only [Option.bind_some, ld_in0 hb, r2]
    rw [int_call (put2c _)]
    simp only [Option.bind_some]
    rw [add2 (by simp [pTwo])]
    simp only [Option.bind_some]
    rw [add2 (by simp only [List.length_append, List.length_cons, List.length_nil, pTwo_len]; omega)]
    simp only [Option.bind_some, bI_add]
    rw [wrap_i64 (n := (i : Int) + 1) (by omega) (by omega)]
    obtain ⟨H', e⟩ := ih (acc ++ ([u8 x.Flags] ++ pTwo x.Name ++ pTwo x.Typ)) (H ++ [some [x.row]]) (getBlk_app h) (by simp only [List.length_append, List.length_cons, List.length_nil, pTwo_len]; omega)
    rw [show ((i : Int) + 1) = ((i + 1 : Nat) : Int) by omega, e]
    exact ⟨H', by simp [pField, pOne]⟩
theorem c61_15 (c : SClass) (w : c.wf) : ∀ i, i ≤ c.Faces.length → ∀ (acc : List UInt8) (H : Heap), getBlk H 0 = some [c.row] → acc.length + ((c.Faces.drop i).flatMap pTwo).length + (cI15 c).length ≤ 4611686018427387904 → ∃ H', J E 61 15 [.ptr 0 0 0, .str acc, .list (c.Faces.map rInt), .int .i64 c.Faces.length, .int .i64 i] H = some (.str (acc ++ (c.Faces.drop i).flatMap pTwo ++ cI15 c), H') := by
  have m5 : c.row[0 + 5]? = some (.list (c.Fields.map SField.row)) := rfl
  obtain ⟨w1, w2⟩ := w.2.2.2.2.1
  have w6 := w.2.2.2.2.2.1.1
  apply loop_up
  · intro acc H h hM
    rw [j61_15]
    simp only [fa_ptr, ld_in0 h, m5, lnL_list, List.length_map, bI_lss, Int.lt_irrefl, decide_false, Option.bind_some, asB_bool, cond_false, List.drop_length, List.flatMap_nil, List.append_nil]
    simp only [List.drop_length, List.flatMap_nil, List.length_nil, cI15, List.length_append, pOne_len] at hM
    rw [int_call (c104 _)]
    simp only [Option.bind_some]
    rw [add1 (by omega)]
    simp only [Option.bind_some, ld_in0 h, m5, lnL_list, List.length_map]
    obtain ⟨H', e⟩ := c61_21 c w 0 (by omega) (acc ++ pOne c.Fields.length) H h (by simp only [List.drop_zero, List.length_append, pOne_len]; omega)
    simp only [List.drop_zero, Int.natCast_zero] at e
    rw [e]
    exact ⟨H', by simp [cI15]⟩
  · intro i hi ih acc H h hM
    have hlt : ((i : Nat) : Int) < (c.Faces.length : Int) := by omega
    have hia := fun H : Heap => ia_row (row := rInt) (esz := 1) (fun x => rfl) (H := H) hi
    rw [List.drop_eq_getElem_cons hi, List.flatMap_cons] at hM ⊢
    rw [j61_15]
    simp only [bI_lss, hlt, decide_true, Option.bind_some, asB_bool, cond_true, hia, ld_el]
    generalize c.Faces[i] = x at *
    simp only [List.length_append, pTwo_len] at hM
    simp only [show part (rInt x) (0, 1, false) = some (.int .i64 x) from rfl, Option.bind_some]
    rw [int_call (put2c _)]
    simp only [Option.bind_some]
    rw [add2 (by simp only [pTwo_len]; omega)]
    simp only [Option.bind_some, bI_add]
    rw [wrap_i64 (n := (i : Int) + 1) (by omega) (by omega)]
    obtain ⟨H', e⟩ := ih (acc ++ pTwo x) H h (by simp only [List.length_append, pTwo_len]; omega)
    rw [show ((i : Int) + 1) = ((i + 1 : Nat) : Int) by omega, e]
    exact ⟨H', by simp⟩
theorem c61_3 (c : SClass) (w : c.wf) : ∀ i, i ≤ c.Pool.length → ∀ (acc : List UInt8) (H : Heap), getBlk H 0 = some [c.row] → acc.length + ((c.Pool.drop i).flatMap (pConst pTwo)).length + (cI3 c).length ≤ 4611686018427387904 → ∃ H', J E 61 3 [.ptr 0 0 0, .str acc, .list (c.Pool.map SConst.row), .int .i64 c.Pool.length, .int .i64 i] H = some (.str (acc ++ (c.Pool.drop i).flatMap (pConst pTwo) ++ cI3 c), H') := by
  have m1 : c.row[0 + 1]? = some (.int .i64 c.Flags) := rfl
  have m2 : c.row[0 + 2]? = some (.int .i64 c.Name) := rfl
  have m3 : c.row[0 + 3]? = some (.int .i64 c.Super) := rfl
  have m4 : c.row[0 + 4]? = some (.list (c.Faces.map rInt)) := rfl
  obtain ⟨w1, w2⟩ := w.1
  have w6 := w.2.2.2.2.1.1
  apply loop_up
  · intro acc H h hM
    rw [j61_3]
    simp only [fa_ptr, ld_in0 h, m1, bI_lss, Int.lt_irrefl, decide_false, Option.bind_some, asB_bool, cond_false, List.drop_length, List.flatMap_nil, List.append_nil]
    simp only [List.drop_length, List.flatMap_nil, List.length_nil, cI3, List.length_append, pOne_len, pTwo_len] at hM
    rw [int_call (c104 _)]
    simp only [Option.bind_some, ld_in0 h, m2]
    rw [int_call (put2c _)]
    simp only [Option.bind_some]
    rw [add2 (by simp [pTwo])]
    simp only [Option.bind_some, ld_in0 h, m3]
    rw [int_call (put2c _)]
    simp only [Option.bind_some]
    rw [add2 (by simp [pTwo])]
    simp only [Option.bind_some, ld_in0 h, m4, lnL_list, List.length_map]
    rw [int_call (c104 _)]
    simp only [Option.bind_some]
    rw [add1 (by simp [pTwo])]
    simp only [Option.bind_some]
    rw [add2 (by simp only [List.length_append, List.length_cons, List.length_nil, pOne_len, pTwo_len]; omega)]
    simp only [Option.bind_some, ld_in0 h, m4, lnL_list, List.length_map]
    obtain ⟨H', e⟩ := c61_15 c w 0 (by omega) (acc ++ ([u8 c.Flags] ++ pTwo c.Name ++ pTwo c.Super ++ pOne c.Faces.length)) H h (by simp only [List.drop_zero, List.length_append, List.length_cons, List.length_nil, pOne_len, pTwo_len]; omega)
    simp only [List.drop_zero, Int.natCast_zero] at e
    rw [e]
    exact ⟨H', by simp [cI3, pOne]⟩
  · intro i hi ih acc H h hM
    have hlt : ((i : Nat) : Int) < (c.Pool.length : Int) := by omega
    have wx := w2 _ (List.getElem_mem hi)
    have hia := fun H : Heap => ia_row (row := SConst.row) (esz := 4) (fun x => rfl) (H := H) hi
    rw [List.drop_eq_getElem_cons hi, List.flatMap_cons] at hM ⊢
    rw [j61_3]
    simp only [bI_lss, hlt, decide_true, Option.bind_some, asB_bool, cond_true, hia, ld_el]
    generalize c.Pool[i] = x at *
    simp only [List.length_append] at hM
    simp only [show part x.row (0, 4, true) = some x.d from rfl, Option.bind_some]
    rw [alloc_eq _ _ _ rfl, put_loc (z := 4) H [.int .i64 0, .str [], .int .i64 0, .int .i64 0] x.row rfl rfl rfl]
    have hb : getBlk (H ++ [some [x.row]]) H.length = some [x.row] := getBlk_self _ _ []
    have r0 : x.row[0 + 0]? = some (.int .i64 x.Kind) := rfl
    have r1 : x.row[0 + 1]? = some (.str x.Text) := rfl
    have r2 : x.row[0 + 2]? = some (.int .i64 x.A) := rfl
    have r3 : x.row[0 + 3]? = some (.int .i64 x.B) := rfl
    have nx : ∀ acc' : List UInt8, acc' = acc ++ pConst pTwo x → ∃ H', J E 61 12 [.ptr 0 0 0, .str acc', .list (c.Pool.map SConst.row), .int .i64 c.Pool.length, .int .i64 i] (H ++ [some [x.row]]) = some (.str (acc ++ (pConst pTwo x ++ (c.Pool.drop (i + 1)).flatMap (pConst pTwo)) ++ cI3 c), H') := by
      intro acc' e
      rw [j61_12, bI_add, wrap_i64 (n := (i : Int) + 1) (by omega) (by omega)]
      simp only [Option.bind_some]
      obtain ⟨H', e2⟩ := ih acc' (H ++ [some [x.row]]) (getBlk_app h) (by rw [e]; simp only [List.length_append]; omega)
      rw [show ((i : Int) + 1) = ((i + 1 : Nat) : Int) by omega, e2, e]
      exact ⟨H', by simp⟩
    simp only [Option.bind_some, fa_ptr, ld_in0 hb, r0]
    rw [int_call (c104 _)]
    simp only [Option.bind_some]
    have h1 : 1 ≤ (pConst pTwo x).length := by unfold pConst; split <;> (try split) <;> simp [pOne] <;> omega
    rw [add1 (by omega)]
    simp only [Option.bind_some, ld_in0 hb, r0, bI_eql, asB_bool]
    by_cases k1 : x.Kind = 1
    · have hp : pConst pTwo x = pOne x.Kind ++ (pOne x.Text.length ++ x.Text) := by simp [pConst, k1]
      have hq := congrArg List.length hp
      simp only [List.length_append, pOne_len] at hq
      simp only [k1, decide_true, cond_true, ld_in0 hb, r1, Option.bind_some, lnS_str]
      rw [int_call (c104 _)]
      simp only [Option.bind_some, ld_in0 hb, r1]
      rw [add2 (by simp only [List.length_cons, List.length_nil]; omega)]
      simp only [Option.bind_some]
      rw [add2 (by simp only [List.length_append, List.length_cons, List.length_nil, pOne_len]; omega)]
      simp only [Option.bind_some]
      exact nx _ (by rw [hp, k1]; simp [pOne])
    · simp only [k1, decide_false, cond_false, bI_eql, Option.bind_some, asB_bool]
      by_cases k2 : x.Kind = 2
      · have hp : pConst pTwo x = pOne x.Kind ++ pTwo x.A := by simp [pConst, k2]
        have hq := congrArg List.length hp
        simp only [List.length_append, pOne_len, pTwo_len] at hq
        simp only [k2, decide_true, cond_true, ld_in0 hb, r2, Option.bind_some]
        rw [int_call (put2c _)]
        simp only [Option.bind_some]
        rw [add2 (by simp only [List.length_append, List.length_cons, List.length_nil, pOne_len, pTwo_len]; omega)]
        simp only [Option.bind_some]
        exact nx _ (by rw [hp, k2]; simp [pOne])
      · have hp : pConst pTwo x = pOne x.Kind ++ (pTwo x.A ++ pTwo x.B) := by simp [pConst, k1, k2]
        have hq := congrArg List.length hp
        simp only [List.length_append, pOne_len, pTwo_len] at hq
        simp only [k2, decide_false, cond_false, ld_in0 hb, r2, Option.bind_some]
        rw [int_call (put2c _)]
        simp only [Option.bind_some, ld_in0 hb, r3]
        rw [int_call (put2c _)]
        simp only [Option.bind_some]
        rw [add2 (by simp [pTwo])]
        simp only [Option.bind_some]
        rw [add2 (by simp only [List.length_append, List.length_cons, List.length_nil, pOne_len, pTwo_len]; omega)]
        simp only [Option.bind_some]
        exact nx _ (by rw [hp]; simp [pOne])
theorem c61 (c : SClass) (w : c.wf) (hM : (pClass pTwo isAbs c).length ≤ 4611686018427387904) : run E (exec E) false 61 [c.d] = some (.str (pClass pTwo isAbs c)) := by
  have h : getBlk ([some [c.row]] : Heap) 0 = some [c.row] := rfl
  have m0 : c.row[0 + 0]? = some (.list (c.Pool.map SConst.row)) := rfl
  have w1 := w.1.1
  rw [run_ent, e61, alloc_eq _ _ _ rfl]
  rw [show ([] : Heap) ++ [some [D.cells c.d]] = [some [c.row]] from rfl, show ([] : Heap).length = 0 from rfl]
  simp only [fa_ptr, Option.bind_some, ld_in0 h, m0, lnL_list, List.length_map]
  rw [int_call (c104 _)]
  simp only [Option.bind_some]
  rw [add1 (by simp)]
  rw [pClass_partsI] at hM ⊢
  simp only [List.length_append, pOne_len, stow, List.length_cons, List.length_nil] at hM
  obtain ⟨H', e⟩ := c61_3 c w 0 (by omega) ([83, 84, 79, 87] ++ pOne c.Pool.length) [some [c.row]] h (by simp only [List.drop_zero, List.length_append, pOne_len, List.length_cons, List.length_nil]; omega)
  simp only [List.drop_zero, Int.natCast_zero] at e
  simp only [Option.bind_some, ld_in0 h, m0, lnL_list, List.length_map]
  rw [e]
  simp [stow]

end Go.Ev.Ytmljkoieihaomaa
