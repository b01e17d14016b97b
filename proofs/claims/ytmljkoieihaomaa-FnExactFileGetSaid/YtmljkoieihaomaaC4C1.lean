/- Contracts. -/
import Derived.Test.YtmljkoieihaomaaC4C0
namespace Go.Ev.Ytmljkoieihaomaa
set_option linter.unusedVariables false
set_option linter.unusedSimpArgs false
open Go.Ev
def cT13 (c : SClass) : List UInt8 := pOne c.Methods.length ++ c.Methods.flatMap (pMethod pTwo' isAbs')
def cT8 (c : SClass) : List UInt8 := pOne c.Fields.length ++ c.Fields.flatMap (pField pTwo') ++ cT13 c
def cT3 (c : SClass) : List UInt8 := pOne c.Flags ++ pTwo' c.Name ++ pTwo' c.Super ++ pOne c.Faces.length ++ c.Faces.flatMap pTwo' ++ cT8 c
theorem pClass_parts (c : SClass) : pClass pTwo' isAbs' c = stow ++ pOne c.Pool.length ++ c.Pool.flatMap (pConst pTwo') ++ cT3 c := by
  simp [pClass, cT3, cT8, cT13]
theorem flat_get {α : Type} (p : α → List UInt8) : ∀ {l : List α} {x : α}, x ∈ l → (p x).length ≤ (l.flatMap p).length
  | y :: l, x, h => by
    rw [List.flatMap_cons, List.length_append]
    rcases List.mem_cons.mp h with rfl | h
    · omega
    · have := flat_get p h; omega
section
theorem c54_18 (c : SClass) (w : c.wf) (H : Heap) (h : getBlk H 0 = some [c.row]) : ∀ i, i ≤ c.Methods.length → ∀ acc : List UInt8, acc.length + ((c.Methods.drop i).flatMap (pMethod pTwo' isAbs')).length ≤ 4611686018427387904 → J E 54 18 [.ptr 0 0 0, .str acc, .int .i64 i] H = some (.str (acc ++ (c.Methods.drop i).flatMap (pMethod pTwo' isAbs')), H) := by
  have m6 : c.row[0 + 6]? = some (.list (c.Methods.map SMethod.row)) := rfl
  obtain ⟨w1, w2⟩ := w.2.2.2.2.2.2
  apply loop_up
  · intro acc hM
    rw [j54_18]
    simp only [fa_ptr, ld_in0 h, m6, lnL_list, List.length_map, bI_lss, Int.lt_irrefl, decide_false, Option.bind_some, asB_bool, cond_false, List.drop_length, ret_one, List.flatMap_nil, List.append_nil]
  · intro i hi ih acc hM
    have hlt : ((i : Nat) : Int) < (c.Methods.length : Int) := by omega
    have wx := w2 _ (List.getElem_mem hi)
    have hia := fun H : Heap => ia_row (row := SMethod.row) (esz := 8) (fun x => rfl) (H := H) hi
    rw [List.drop_eq_getElem_cons hi, List.flatMap_cons] at hM ⊢
    rw [j54_18]
    simp only [fa_ptr, ld_in0 h, m6, lnL_list, List.length_map, bI_lss, hlt, decide_true, Option.bind_some, asB_bool, cond_true, hia, ld_el]
    generalize c.Methods[i] = x at *
    simp only [List.length_append] at hM
    simp only [show part x.row (0, 8, true) = some x.d from rfl, Option.bind_some]
    rw [pure_call (ts := [x.d]) (by simp [SMethod.readD]) (c98 x wx (by omega))]
    simp only [Option.bind_some]
    rw [add2 (by omega)]
    simp only [Option.bind_some, bI_add]
    rw [wrap_i64 (n := (i : Int) + 1) (by omega) (by omega)]
    have := ih (acc ++ pMethod pTwo' isAbs' x) (by simp only [List.length_append]; omega)
    rw [show ((i : Int) + 1) = ((i + 1 : Nat) : Int) by omega, this]
    simp
theorem c54_13 (c : SClass) (w : c.wf) (H : Heap) (h : getBlk H 0 = some [c.row]) : ∀ i, i ≤ c.Fields.length → ∀ acc : List UInt8, acc.length + ((c.Fields.drop i).flatMap (pField pTwo')).length + (cT13 c).length ≤ 4611686018427387904 → J E 54 13 [.ptr 0 0 0, .str acc, .int .i64 i] H = some (.str (acc ++ (c.Fields.drop i).flatMap (pField pTwo') ++ cT13 c), H) := by
  have m5 : c.row[0 + 5]? = some (.list (c.Fields.map SField.row)) := rfl
  have m6 : c.row[0 + 6]? = some (.list (c.Methods.map SMethod.row)) := rfl
  obtain ⟨w1, w2⟩ := w.2.2.2.2.2.1
  have w6 := w.2.2.2.2.2.2.1
  apply loop_up
  · intro acc hM
    rw [j54_13]
    simp only [fa_ptr, ld_in0 h, m5, m6, lnL_list, List.length_map, bI_lss, Int.lt_irrefl, decide_false, Option.bind_some, asB_bool, cond_false, List.drop_length, List.flatMap_nil, List.append_nil]
    simp only [List.drop_length, List.flatMap_nil, List.length_nil, cT13, List.length_append, pOne_len] at hM
    rw [int_call (c95 _)]
    simp only [Option.bind_some]
    rw [add1 (by omega)]
    simp only [Option.bind_some]
    have := c54_18 c w H h 0 (by omega) (acc ++ pOne c.Methods.length) (by simp only [List.drop_zero, List.length_append, pOne_len]; omega)
    simp only [List.drop_zero, Int.natCast_zero] at this
    rw [this]
    simp [cT13]
  · intro i hi ih acc hM
    have hlt : ((i : Nat) : Int) < (c.Fields.length : Int) := by omega
    have wx := w2 _ (List.getElem_mem hi)
    have hia := fun H : Heap => ia_row (row := SField.row) (esz := 3) (fun x => rfl) (H := H) hi
    rw [List.drop_eq_getElem_cons hi, List.flatMap_cons] at hM ⊢
    rw [j54_13]
    simp only [fa_ptr, ld_in0 h, m5, lnL_list, List.length_map, bI_lss, hlt, decide_true, Option.bind_some, asB_bool, cond_true]
    rw [j54_15]
    simp only [fa_ptr, ld_in0 h, m5, Option.bind_some, hia, fa_el, ld_el]
    generalize c.Fields[i] = x at *
    have r0 : part x.row (0 + 0, 1, false) = some (.int .i64 x.Flags) := rfl
    have r1 : part x.row (0 + 1, 1, false) = some (.int .i64 x.Name) := rfl
    have r2 : part x.row (0 + 2, 1, false) = some (.int .i64 x.Typ) := rfl
    simp only [List.length_append, pField, pOne_len, pTwo'_len] at hM
    simp only [r0, Option.bind_some]
    rw [int_call (c95 _)]
    simp only [Option.bind_some]
    rw [add1 (by omega)]
    simp only [Option.bind_some, ld_in0 h, m5, hia, fa_el, ld_el, r1]
    rw [int_call (c97g _ wx.2.1)]
    simp only [Option.bind_some]
    rw [add2 (by simp only [List.length_append, pOne_len, pTwo'_len]; omega)]
    simp only [Option.bind_some, ld_in0 h, m5, hia, fa_el, ld_el, r2]
    rw [int_call (c97g _ wx.2.2)]
    simp only [Option.bind_some]
    rw [add2 (by simp only [List.length_append, pOne_len, pTwo'_len]; omega)]
    simp only [Option.bind_some, bI_add]
    rw [wrap_i64 (n := (i : Int) + 1) (by omega) (by omega)]
    have := ih (acc ++ pOne x.Flags ++ pTwo' x.Name ++ pTwo' x.Typ) (by simp only [List.length_append, pOne_len, pTwo'_len]; omega)
    rw [show ((i : Int) + 1) = ((i + 1 : Nat) : Int) by omega, this]
    simp [pField]
theorem c54_8 (c : SClass) (w : c.wf) (H : Heap) (h : getBlk H 0 = some [c.row]) : ∀ i, i ≤ c.Faces.length → ∀ acc : List UInt8, acc.length + ((c.Faces.drop i).flatMap pTwo').length + (cT8 c).length ≤ 4611686018427387904 → J E 54 8 [.ptr 0 0 0, .str acc, .int .i64 i] H = some (.str (acc ++ (c.Faces.drop i).flatMap pTwo' ++ cT8 c), H) := by
  have m4 : c.row[0 + 4]? = some (.list (c.Faces.map rInt)) := rfl
  have m5 : c.row[0 + 5]? = some (.list (c.Fields.map SField.row)) := rfl
  obtain ⟨w1, w2⟩ := w.2.2.2.2.1
  have w6 := w.2.2.2.2.2.1.1
  apply loop_up
  · intro acc hM
    rw [j54_8]
    simp only [fa_ptr, ld_in0 h, m4, m5, lnL_list, List.length_map, bI_lss, Int.lt_irrefl, decide_false, Option.bind_some, asB_bool, cond_false, List.drop_length, List.flatMap_nil, List.append_nil]
    simp only [List.drop_length, List.flatMap_nil, List.length_nil, cT8, List.length_append, pOne_len] at hM
    rw [int_call (c95 _)]
    simp only [Option.bind_some]
    rw [add1 (by omega)]
    simp only [Option.bind_some]
    have := c54_13 c w H h 0 (by omega) (acc ++ pOne c.Fields.length) (by simp only [List.drop_zero, List.length_append, pOne_len]; omega)
    simp only [List.drop_zero, Int.natCast_zero] at this
    rw [this]
    simp [cT8]
  · intro i hi ih acc hM
    have hlt : ((i : Nat) : Int) < (c.Faces.length : Int) := by omega
    have wx := w2 _ (List.getElem_mem hi)
    have hia := fun H : Heap => ia_row (row := rInt) (esz := 1) (fun x => rfl) (H := H) hi
    rw [List.drop_eq_getElem_cons hi, List.flatMap_cons] at hM ⊢
    rw [j54_8]
    simp only [fa_ptr, ld_in0 h, m4, lnL_list, List.length_map, bI_lss, hlt, decide_true, Option.bind_some, asB_bool, cond_true, hia, ld_el]
    generalize c.Faces[i] = x at *
    simp only [List.length_append, pTwo'_len] at hM
    simp only [show part (rInt x) (0, 1, false) = some (.int .i64 x) from rfl, Option.bind_some]
    rw [int_call (c97g _ wx)]
    simp only [Option.bind_some]
    rw [add2 (by simp only [pTwo'_len]; omega)]
    simp only [Option.bind_some, bI_add]
    rw [wrap_i64 (n := (i : Int) + 1) (by omega) (by omega)]
    have := ih (acc ++ pTwo' x) (by simp only [List.length_append, pTwo'_len]; omega)
    rw [show ((i : Int) + 1) = ((i + 1 : Nat) : Int) by omega, this]
    simp
theorem c54_3 (c : SClass) (w : c.wf) (H : Heap) (h : getBlk H 0 = some [c.row]) : ∀ i, i ≤ c.Pool.length → ∀ acc : List UInt8, acc.length + ((c.Pool.drop i).flatMap (pConst pTwo')).length + (cT3 c).length ≤ 4611686018427387904 → J E 54 3 [.ptr 0 0 0, .str acc, .int .i64 i] H = some (.str (acc ++ (c.Pool.drop i).flatMap (pConst pTwo') ++ cT3 c), H) := by
  have m0 : c.row[0 + 0]? = some (.list (c.Pool.map SConst.row)) := rfl
  have m1 : c.row[0 + 1]? = some (.int .i64 c.Flags) := rfl
  have m2 : c.row[0 + 2]? = some (.int .i64 c.Name) := rfl
  have m3 : c.row[0 + 3]? = some (.int .i64 c.Super) := rfl
  have m4 : c.row[0 + 4]? = some (.list (c.Faces.map rInt)) := rfl
  obtain ⟨w1, w2⟩ := w.1
  have w6 := w.2.2.2.2.1.1
  apply loop_up
  · intro acc hM
    rw [j54_3]
    simp only [fa_ptr, ld_in0 h, m0, m1, lnL_list, List.length_map, bI_lss, Int.lt_irrefl, decide_false, Option.bind_some, asB_bool, cond_false, List.drop_length, List.flatMap_nil, List.append_nil]
    simp only [List.drop_length, List.flatMap_nil, List.length_nil, cT3, List.length_append, pOne_len, pTwo'_len] at hM
    rw [int_call (c95 _)]
    simp only [Option.bind_some]
    rw [add1 (by omega)]
    simp only [Option.bind_some, ld_in0 h, m2]
    rw [int_call (c97g _ w.2.2.1)]
    simp only [Option.bind_some]
    rw [add2 (by simp only [List.length_append, pOne_len, pTwo'_len]; omega)]
    simp only [Option.bind_some, ld_in0 h, m3]
    rw [int_call (c97g _ w.2.2.2.1)]
    simp only [Option.bind_some]
    rw [add2 (by simp only [List.length_append, pOne_len, pTwo'_len]; omega)]
    simp only [Option.bind_some, ld_in0 h, m4, lnL_list, List.length_map]
    rw [int_call (c95 _)]
    simp only [Option.bind_some]
    rw [add1 (by simp only [List.length_append, pOne_len, pTwo'_len]; omega)]
    simp only [Option.bind_some]
    have := c54_8 c w H h 0 (by omega) (acc ++ pOne c.Flags ++ pTwo' c.Name ++ pTwo' c.Super ++ pOne c.Faces.length) (by simp only [List.drop_zero, List.length_append, pOne_len, pTwo'_len]; omega)
    simp only [List.drop_zero, Int.natCast_zero] at this
    rw [this]
    simp [cT3]
  · intro i hi ih acc hM
    have hlt : ((i : Nat) : Int) < (c.Pool.length : Int) := by omega
    have wx := w2 _ (List.getElem_mem hi)
    have hia := fun H : Heap => ia_row (row := SConst.row) (esz := 4) (fun x => rfl) (H := H) hi
    rw [List.drop_eq_getElem_cons hi, List.flatMap_cons] at hM ⊢
    rw [j54_3]
    simp only [fa_ptr, ld_in0 h, m0, lnL_list, List.length_map, bI_lss, hlt, decide_true, Option.bind_some, asB_bool, cond_true, hia, ld_el]
    generalize c.Pool[i] = x at *
    simp only [List.length_append] at hM
    simp only [show part x.row (0, 4, true) = some x.d from rfl, Option.bind_some]
    rw [pure_call (ts := [x.d]) (by simp [SConst.readD]) (c96 x wx)]
    simp only [Option.bind_some]
    rw [add2 (by omega)]
    simp only [Option.bind_some, bI_add]
    rw [wrap_i64 (n := (i : Int) + 1) (by omega) (by omega)]
    have := ih (acc ++ pConst pTwo' x) (by simp only [List.length_append]; omega)
    rw [show ((i : Int) + 1) = ((i + 1 : Nat) : Int) by omega, this]
    simp
end
theorem c54 (c : SClass) (w : c.wf) (hM : (pClass pTwo' isAbs' c).length ≤ 4611686018427387904) : run E (exec E) false 54 [c.d] = some (.str (pClass pTwo' isAbs' c)) := by
  have h : getBlk ([some [c.row]] : Heap) 0 = some [c.row] := rfl
  have m0 : c.row[0 + 0]? = some (.list (c.Pool.map SConst.row)) := rfl
  have w1 := w.1.1
  rw [run_ent, e54, alloc_eq _ _ _ rfl]
  rw [show ([] : Heap) ++ [some [D.cells c.d]] = [some [c.row]] from rfl, show ([] : Heap).length = 0 from rfl]
  simp only [fa_ptr, Option.bind_some, ld_in0 h, m0, lnL_list, List.length_map]
  rw [int_call (c95 _)]
  simp only [Option.bind_some]
  rw [add1 (by simp)]
  rw [pClass_parts] at hM ⊢
  simp only [List.length_append, pOne_len, stow, List.length_cons, List.length_nil] at hM
  have := c54_3 c w [some [c.row]] h 0 (by omega) ([83, 84, 79, 87] ++ pOne c.Pool.length) (by simp only [List.drop_zero, List.length_append, pOne_len, List.length_cons, List.length_nil]; omega)
  simp only [List.drop_zero, Int.natCast_zero] at this
  simp only [Option.bind_some]
  rw [this]
  simp [stow]
end Go.Ev.Ytmljkoieihaomaa
