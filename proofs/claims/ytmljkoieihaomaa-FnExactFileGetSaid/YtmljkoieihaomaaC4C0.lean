/- Contracts. -/
import Derived.Test.YtmljkoieihaomaaC4B3
namespace Go.Ev.Ytmljkoieihaomaa
set_option linter.unusedVariables false
set_option linter.unusedSimpArgs false
open Go.Ev
/-! Writing a file: the other way. -/
theorem int_call {g : FuncId} {n : Int} {H : Heap} {t : D} (h : run E (exec E) false g [.int .i64 n] = some t) : callFn E (exec E) .pure g [.int .i64 n] H = some (t, H) := pure_call (by simp) h
theorem c97g (n : Int) (hn : i64 n) : run E (exec E) false 97 [.int .i64 n] = some (.str (pTwo' n)) := by
  obtain ⟨h0, h1⟩ := hn
  rw [run_ent, e97]
  have hq : -9223372036854775808 ≤ n.tdiv 256 ∧ n.tdiv 256 ≤ 9223372036854775807 := by
    have := Int.tmod_add_mul_tdiv n 256
    have := Int.tmod_lt_of_pos n (show (0 : Int) < 256 by decide)
    have : -256 < n.tmod 256 := by
      have := Int.neg_lt_of_neg_lt (a := n.tmod 256) (b := 256) (by
        rw [← Int.neg_tmod]
        exact Int.tmod_lt_of_pos _ (by decide))
      omega
    omega
  simp only [bI_rem _ _ _ (show (256 : Int) ≠ 0 by decide), bI_quo _ _ _ (show (256 : Int) ≠ 0 by decide), Option.bind_some, cI_int]
  rw [wrap_i64 (n := n.tdiv 256) hq.1 hq.2]
  simp only [u8_wrap]
  have : bsl 1 [.int .u8 0] [] 2 [(0, .int .u8 ((u8 (n.tdiv 256)).toNat : Int)), (1, .int .u8 ((u8 (n.tmod 256)).toNat : Int))] = some (.sl 0 0 2, [some ((pTwo' n).map rByte)]) := rfl
  rw [this]
  simp only [Option.bind_some]
  rw [show D.sl 0 0 2 = D.sl 0 0 (pTwo' n).length from rfl, cBS_map _ _ _ rfl]
  simp
theorem pTwo'_len (n : Int) : (pTwo' n).length = 2 := rfl
theorem pTwo_len (n : Int) : (pTwo n).length = 2 := rfl
theorem pOne_len (n : Int) : (pOne n).length = 1 := rfl
theorem add1 {acc : List UInt8} {n : Int} (h : acc.length + 1 ≤ 4611686018427387904) : bS .add (.str acc) (.str [u8 n]) = some (.str (acc ++ pOne n)) := bS_add _ _ (by simpa using h)
theorem add2 {acc t : List UInt8} (h : acc.length + t.length ≤ 4611686018427387904) : bS .add (.str acc) (.str t) = some (.str (acc ++ t)) := bS_add _ _ h
theorem c138_3 (l : List SKind) (hl : l.length ≤ 140737488351232) (w : ∀ x ∈ l, x.wf) (H : Heap) : ∀ i, i ≤ l.length → ∀ acc : List UInt8, acc.length + ((l.drop i).flatMap (pKind pTwo')).length ≤ 4611686018427387904 → J E 138 3 [.list (l.map SKind.row), .str acc, .int .i64 i] H = some (.str (acc ++ (l.drop i).flatMap (pKind pTwo')), H) := by
  apply loop_up
  · intro acc hM
    rw [j138_3]
    simp only [lnL_list, List.length_map, bI_lss, Int.lt_irrefl, decide_false, Option.bind_some, asB_bool, cond_false, List.drop_length, ret_one, List.flatMap_nil, List.append_nil]
  · intro i hi ih acc hM
    have hlt : ((i : Nat) : Int) < (l.length : Int) := by omega
    have wx := w _ (List.getElem_mem hi)
    have hia : ∀ H : Heap, ia 2 H (.list (l.map SKind.row)) (.int .i64 i) = some (.el (l[i]).row 0) := fun H => by
      rw [ia_list (n := (i : Int)) (by omega) (by simpa using hi) (by simp)]; simp
    rw [List.drop_eq_getElem_cons hi, List.flatMap_cons] at hM ⊢
    rw [j138_3]
    simp only [lnL_list, List.length_map, bI_lss, hlt, decide_true, Option.bind_some, asB_bool, cond_true, hia, fa_el, ld_el]
    generalize l[i] = x at *
    simp only [List.length_append] at hM
    simp only [show part x.row (0 + 0, 1, false) = some (.int .i64 x.Tag) from rfl, show part x.row (0 + 1, 1, false) = some (.int .i64 x.Class) from rfl, Option.bind_some]
    rw [int_call (c95 x.Tag)]
    simp only [Option.bind_some]
    have h1 : 1 ≤ (pKind pTwo' x).length := by unfold pKind; split <;> simp [pOne]
    rw [add1 (by omega)]
    simp only [Option.bind_some, hia, fa_el, ld_el, show part x.row (0 + 0, 1, false) = some (.int .i64 x.Tag) from rfl, show part x.row (0 + 1, 1, false) = some (.int .i64 x.Class) from rfl, bI_eql, asB_bool]
    have nx : ∀ acc' : List UInt8, acc' = acc ++ pKind pTwo' x → J E 138 4 [.list (l.map SKind.row), .str acc', .int .i64 i] H = some (.str (acc ++ (pKind pTwo' x ++ (l.drop (i + 1)).flatMap (pKind pTwo'))), H) := by
      intro acc' e
      rw [j138_4, bI_add, wrap_i64 (n := (i : Int) + 1) (by omega) (by omega)]
      simp only [Option.bind_some]
      have := ih acc' (by rw [e]; simp only [List.length_append]; omega)
      rw [show ((i : Int) + 1) = ((i + 1 : Nat) : Int) by omega, this, e]
      simp
    by_cases h3 : x.Tag = 3
    · simp only [h3, decide_true, cond_true]
      rw [int_call (c97g x.Class wx.2)]
      simp only [Option.bind_some]
      have h2 : (pKind pTwo' x).length = 3 := by simp [pKind, h3, pOne, pTwo']
      rw [add2 (by simp [pOne, pTwo']; omega)]
      simp only [Option.bind_some]
      exact nx _ (by simp [pKind, h3])
    · simp only [h3, decide_false, cond_false]
      exact nx _ (by simp [pKind, h3])
theorem c138 (l : List SKind) (hl : l.length ≤ 140737488351232) (w : ∀ x ∈ l, x.wf) (hM : (pKinds pTwo' l).length ≤ 4611686018427387904) : run E (exec E) false 138 [.list (l.map SKind.row)] = some (.str (pKinds pTwo' l)) := by
  unfold pKinds at *
  rw [run_ent, e138]
  simp only [lnL_list, List.length_map, Option.bind_some]
  rw [int_call (c95 _)]
  simp only [Option.bind_some]
  rw [show D.int .i64 0 = D.int .i64 ((0 : Nat) : Int) from rfl, c138_3 l hl w [] 0 (by omega) _ (by simp only [List.drop_zero, List.length_append, pOne_len, List.length_cons, List.length_nil] at hM ⊢; omega)]
  simp [pOne]
theorem c96 (x : SConst) (wx : x.wf) : run E (exec E) false 96 [x.d] = some (.str (pConst pTwo' x)) := by
  have h : getBlk ([some [x.row]] : Heap) 0 = some [x.row] := rfl
  have m0 : x.row[0 + 0]? = some (.int .i64 x.Kind) := rfl
  have m1 : x.row[0 + 1]? = some (.str x.Text) := rfl
  have m2 : x.row[0 + 2]? = some (.int .i64 x.A) := rfl
  have m3 : x.row[0 + 3]? = some (.int .i64 x.B) := rfl
  have hw := wx.2.1
  rw [run_ent, e96, alloc_eq _ _ _ rfl]
  rw [show ([] : Heap) ++ [some [D.cells x.d]] = [some [x.row]] from rfl, show ([] : Heap).length = 0 from rfl]
  simp only [fa_ptr, Option.bind_some, ld_in0 h, m0, m1, m2, m3, bI_eql, asB_bool, lnS_str, pConst]
  by_cases k1 : x.Kind = 1
  · simp only [k1, decide_true, cond_true, if_true]
    rw [int_call (c95 _)]
    simp only [Option.bind_some, ld_in0 h, m1, lnS_str]
    rw [int_call (c95 _)]
    simp only [Option.bind_some]
    rw [add1 (by simp)]
    simp only [Option.bind_some, ld_in0 h, m1]
    rw [add2 (by simp [pOne]; omega)]
    simp [pOne]
  · simp only [k1, decide_false, cond_false, if_false]
    by_cases k2 : x.Kind = 2
    · simp only [k2, decide_true, cond_true, if_true]
      rw [int_call (c95 _)]
      simp only [Option.bind_some, ld_in0 h, m2]
      rw [int_call (c97g _ wx.2.2.1)]
      simp only [Option.bind_some]
      rw [add2 (by simp [pTwo'])]
      simp [pOne]
    · simp only [k2, decide_false, cond_false, if_false]
      rw [int_call (c95 _)]
      simp only [Option.bind_some, ld_in0 h, m2]
      rw [int_call (c97g _ wx.2.2.1)]
      simp only [Option.bind_some]
      rw [add2 (by simp [pTwo'])]
      simp only [Option.bind_some, ld_in0 h, m3]
      rw [int_call (c97g _ wx.2.2.2)]
      simp only [Option.bind_some]
      rw [add2 (by simp [pTwo'])]
      simp [pOne]
theorem ia_row {α : Type} {l : List α} {row : α → List D} {esz : Nat} (hr : ∀ x, (row x).length = esz) {H : Heap} {i : Nat} (hi : i < l.length) : ia esz H (.list (l.map row)) (.int .i64 i) = some (.el (row l[i]) 0) := by
  rw [ia_list (n := (i : Int)) (by omega) (by simpa using hi) (by simp [hr])]; simp
def mTail (m : SMethod) : List UInt8 := pOne m.Frames.length ++ m.Frames.flatMap (pFrame pTwo')
theorem c98_12 (m : SMethod) (w : m.wf) (H : Heap) (h : getBlk H 0 = some [m.row]) : ∀ i, i ≤ m.Frames.length → ∀ (acc : List UInt8) (K : Heap), acc.length + ((m.Frames.drop i).flatMap (pFrame pTwo')).length ≤ 4611686018427387904 → J E 98 12 [.ptr 0 0 0, .str acc, .int .i64 i] (H ++ K) = some (.str (acc ++ (m.Frames.drop i).flatMap (pFrame pTwo')), H ++ K) := by
  have m7 : m.row[0 + 7]? = some (.list (m.Frames.map SFrame.row)) := rfl
  obtain ⟨-, -, -, -, -, -, -, w1, w2⟩ := w
  apply loop_up
  · intro acc K hM
    rw [j98_12]
    simp only [fa_ptr, ld_in h, m7, lnL_list, List.length_map, bI_lss, Int.lt_irrefl, decide_false, Option.bind_some, asB_bool, cond_false, List.drop_length, ret_one, List.flatMap_nil, List.append_nil]
  · intro i hi ih acc K hM
    have hlt : ((i : Nat) : Int) < (m.Frames.length : Int) := by omega
    have wx := w2 _ (List.getElem_mem hi)
    have hia := fun H : Heap => ia_row (row := SFrame.row) (esz := 3) (fun x => rfl) (H := H) hi
    rw [List.drop_eq_getElem_cons hi, List.flatMap_cons] at hM ⊢
    rw [j98_12]
    simp only [fa_ptr, ld_in h, m7, lnL_list, List.length_map, bI_lss, hlt, decide_true, Option.bind_some, asB_bool, cond_true]
    rw [j98_14]
    simp only [fa_ptr, ld_in h, m7, Option.bind_some, hia, fa_el, ld_el]
    generalize m.Frames[i] = x at *
    have r0 : part x.row (0 + 0, 1, false) = some (.int .i64 x.At) := rfl
    have r1 : part x.row (0 + 1, 1, false) = some (.list (x.Locals.map SKind.row)) := rfl
    have r2 : part x.row (0 + 2, 1, false) = some (.list (x.Stack.map SKind.row)) := rfl
    simp only [List.length_append, pFrame, pTwo'_len] at hM
    simp only [r0, r1, r2, Option.bind_some]
    rw [int_call (c97g x.At wx.1)]
    simp only [Option.bind_some]
    rw [add2 (by rw [pTwo'_len]; omega)]
    simp only [Option.bind_some, ld_in h, m7, hia, fa_el, ld_el, r1]
    rw [pure_call (ts := [.list (x.Locals.map SKind.row)]) (by simp) (c138 _ wx.2.1.1 wx.2.1.2 (by omega))]
    simp only [Option.bind_some]
    rw [add2 (by simp only [List.length_append, pTwo'_len]; omega)]
    simp only [Option.bind_some, ld_in h, m7, hia, fa_el, ld_el, r2]
    rw [pure_call (ts := [.list (x.Stack.map SKind.row)]) (by simp) (c138 _ wx.2.2.1 wx.2.2.2 (by omega))]
    simp only [Option.bind_some]
    rw [add2 (by simp only [List.length_append, pTwo'_len]; omega)]
    simp only [Option.bind_some, bI_add]
    rw [wrap_i64 (n := (i : Int) + 1) (by omega) (by omega)]
    have := ih (acc ++ pTwo' x.At ++ pKinds pTwo' x.Locals ++ pKinds pTwo' x.Stack) K (by simp only [List.length_append, pTwo'_len]; omega)
    rw [show ((i : Int) + 1) = ((i + 1 : Nat) : Int) by omega, this]
    simp [pFrame]
theorem c98_6 (m : SMethod) (w : m.wf) (H : Heap) (h : getBlk H 0 = some [m.row]) : ∀ i, i ≤ m.Traps.length → ∀ (acc : List UInt8) (K : Heap), acc.length + ((m.Traps.drop i).flatMap (pTrap pTwo')).length + (mTail m).length ≤ 4611686018427387904 → ∃ K', J E 98 6 [.ptr 0 0 0, .str acc, .int .i64 i] (H ++ K) = some (.str (acc ++ (m.Traps.drop i).flatMap (pTrap pTwo') ++ mTail m), H ++ K') := by
  have m6 : m.row[0 + 6]? = some (.list (m.Traps.map STrap.row)) := rfl
  have m7 : m.row[0 + 7]? = some (.list (m.Frames.map SFrame.row)) := rfl
  have w0 := w
  obtain ⟨-, -, -, -, -, -, ⟨w1, w2⟩, -, -⟩ := w
  apply loop_up
  · intro acc K hM
    rw [j98_6]
    simp only [fa_ptr, ld_in h, m6, m7, lnL_list, List.length_map, bI_lss, Int.lt_irrefl, decide_false, Option.bind_some, asB_bool, cond_false, List.drop_length, List.flatMap_nil, List.append_nil]
    rw [int_call (c95 _)]
    simp only [Option.bind_some]
    simp only [mTail, List.drop_length, List.flatMap_nil, List.length_nil, List.length_append, pOne_len] at hM
    rw [add1 (by omega)]
    simp only [Option.bind_some]
    refine ⟨K, ?_⟩
    have := c98_12 m w0 H h 0 (by omega) (acc ++ pOne m.Frames.length) K (by simp only [List.drop_zero, List.length_append, pOne_len]; omega)
    simp only [List.drop_zero, Int.natCast_zero] at this
    rw [this]
    simp [mTail]
  · intro i hi ih acc K hM
    have hlt : ((i : Nat) : Int) < (m.Traps.length : Int) := by omega
    have wx := w2 _ (List.getElem_mem hi)
    have hia := fun H : Heap => ia_row (row := STrap.row) (esz := 4) (fun x => rfl) (H := H) hi
    rw [List.drop_eq_getElem_cons hi, List.flatMap_cons] at hM ⊢
    rw [j98_6]
    simp only [fa_ptr, ld_in h, m6, lnL_list, List.length_map, bI_lss, hlt, decide_true, Option.bind_some, asB_bool, cond_true, hia, ld_el]
    generalize m.Traps[i] = x at *
    simp only [show part x.row (0, 4, true) = some x.d from rfl, Option.bind_some]
    rw [alloc_eq _ _ _ rfl, put_loc (z := 4) (H ++ K) [.int .i64 0, .int .i64 0, .int .i64 0, .int .i64 0] x.row rfl rfl rfl]
    have hb : getBlk (H ++ K ++ [some [x.row]]) (H ++ K).length = some [x.row] := getBlk_self _ _ []
    have r0 : x.row[0 + 0]? = some (.int .i64 x.From) := rfl
    have r1 : x.row[0 + 1]? = some (.int .i64 x.To) := rfl
    have r2 : x.row[0 + 2]? = some (.int .i64 x.At) := rfl
    have r3 : x.row[0 + 3]? = some (.int .i64 x.Class) := rfl
    simp only [List.length_append, pTrap, pTwo'_len] at hM
    simp only [Option.bind_some, fa_ptr, ld_in0 hb, r0]
    rw [int_call (c97g _ wx.1)]
    simp only [Option.bind_some]
    rw [add2 (by simp only [pTwo'_len]; omega)]
    simp only [Option.bind_some, fa_ptr, ld_in0 hb, r1]
    rw [int_call (c97g _ wx.2.1)]
    simp only [Option.bind_some]
    rw [add2 (by simp only [List.length_append, pTwo'_len]; omega)]
    simp only [Option.bind_some, fa_ptr, ld_in0 hb, r2]
    rw [int_call (c97g _ wx.2.2.1)]
    simp only [Option.bind_some]
    rw [add2 (by simp only [List.length_append, pTwo'_len]; omega)]
    simp only [Option.bind_some, fa_ptr, ld_in0 hb, r3]
    rw [int_call (c97g _ wx.2.2.2)]
    simp only [Option.bind_some]
    rw [add2 (by simp only [List.length_append, pTwo'_len]; omega)]
    simp only [Option.bind_some, bI_add]
    rw [wrap_i64 (n := (i : Int) + 1) (by omega) (by omega), List.append_assoc H]
    obtain ⟨K', e⟩ := ih (acc ++ pTwo' x.From ++ pTwo' x.To ++ pTwo' x.At ++ pTwo' x.Class) (K ++ [some [x.row]]) (by simp only [List.length_append, pTwo'_len]; omega)
    rw [show ((i : Int) + 1) = ((i + 1 : Nat) : Int) by omega, e]
    exact ⟨K', by simp [pTrap]⟩
theorem isAbs'_eq (n : Int) (hn : i64 n) : ∃ a : Int, bI .rem (.int .i64 n) (.int .i64 16) = some (.int .i64 (n.tmod 16)) ∧ bI .quo (.int .i64 (n.tmod 16)) (.int .i64 8) = some (.int .i64 a) ∧ decide (a = 1) = isAbs' n := by
  have h1 := Int.tmod_lt_of_pos n (show (0 : Int) < 16 by decide)
  have h2 : -16 < n.tmod 16 := by
    have := Int.neg_lt_of_neg_lt (a := n.tmod 16) (b := 16) (by
      rw [← Int.neg_tmod]
      exact Int.tmod_lt_of_pos _ (by decide))
    omega
  refine ⟨(n.tmod 16).tdiv 8, bI_rem _ _ _ (by decide), ?_, rfl⟩
  rw [bI_quo _ _ _ (by decide)]
  generalize n.tmod 16 = r at *
  have : -2 ≤ r.tdiv 8 ∧ r.tdiv 8 ≤ 2 := by
    have h3 := Int.tmod_add_mul_tdiv r 8
    have h4 := Int.tmod_lt_of_pos r (show (0 : Int) < 8 by decide)
    have h5 : -8 < r.tmod 8 := by
      have := Int.neg_lt_of_neg_lt (a := r.tmod 8) (b := 8) (by
        rw [← Int.neg_tmod]
        exact Int.tmod_lt_of_pos _ (by decide))
      omega
    omega
  rw [wrap_i64 (by omega) (by omega)]
theorem c98 (m : SMethod) (w : m.wf) (hM : (pMethod pTwo' isAbs' m).length ≤ 4611686018427387904) : run E (exec E) false 98 [m.d] = some (.str (pMethod pTwo' isAbs' m)) := by
  have h : getBlk ([some [m.row]] : Heap) 0 = some [m.row] := rfl
  have m0 : m.row[0 + 0]? = some (.int .i64 m.Flags) := rfl
  have m1 : m.row[0 + 1]? = some (.int .i64 m.Name) := rfl
  have m2 : m.row[0 + 2]? = some (.int .i64 m.Desc) := rfl
  have m3 : m.row[0 + 3]? = some (.int .i64 m.Deep) := rfl
  have m4 : m.row[0 + 4]? = some (.int .i64 m.Locals) := rfl
  have m5 : m.row[0 + 5]? = some (.str m.Code) := rfl
  have m6 : m.row[0 + 6]? = some (.list (m.Traps.map STrap.row)) := rfl
  have w0 := w
  obtain ⟨g0, g1, g2, g3, g4, g5, ⟨g6, -⟩, -, -⟩ := w
  obtain ⟨q, a1, a2, a3⟩ := isAbs'_eq m.Flags g0
  rw [run_ent, e98, alloc_eq _ _ _ rfl]
  rw [show ([] : Heap) ++ [some [D.cells m.d]] = [some [m.row]] from rfl, show ([] : Heap).length = 0 from rfl]
  simp only [fa_ptr, Option.bind_some, ld_in0 h, m0]
  rw [int_call (c95 _)]
  simp only [Option.bind_some, ld_in0 h, m1]
  rw [int_call (c97g _ g1)]
  simp only [Option.bind_some]
  rw [add2 (by simp [pTwo'])]
  simp only [Option.bind_some, ld_in0 h, m2]
  rw [int_call (c97g _ g2)]
  simp only [Option.bind_some]
  rw [add2 (by simp [pTwo'])]
  simp only [Option.bind_some, ld_in0 h, m0, a1, a2, bI_eql, asB_bool, a3]
  cases ha : isAbs' m.Flags with
  | true =>
    simp [pMethod, ha, pOne]
  | false =>
    simp only [pMethod, ha, Bool.false_eq_true, if_false, List.length_append, pOne_len, pTwo'_len] at hM
    simp only [cond_false, ld_in0 h, m3, Option.bind_some]
    rw [int_call (c95 _)]
    simp only [Option.bind_some]
    rw [add1 (by simp only [List.length_append, List.length_cons, List.length_nil, pTwo'_len]; omega)]
    simp only [Option.bind_some, ld_in0 h, m4]
    rw [int_call (c95 _)]
    simp only [Option.bind_some]
    rw [add1 (by simp only [List.length_append, List.length_cons, List.length_nil, pTwo'_len, pOne_len]; omega)]
    simp only [Option.bind_some, ld_in0 h, m5, lnS_str]
    rw [int_call (c97g _ ⟨by omega, by omega⟩)]
    simp only [Option.bind_some]
    rw [add2 (by simp only [List.length_append, List.length_cons, List.length_nil, pTwo'_len, pOne_len]; omega)]
    simp only [Option.bind_some, ld_in0 h, m5]
    rw [add2 (by simp only [List.length_append, List.length_cons, List.length_nil, pTwo'_len, pOne_len]; omega)]
    simp only [Option.bind_some, ld_in0 h, m6, lnL_list, List.length_map]
    rw [int_call (c95 _)]
    simp only [Option.bind_some]
    rw [add1 (by simp only [List.length_append, List.length_cons, List.length_nil, pTwo'_len, pOne_len]; omega)]
    simp only [Option.bind_some]
    obtain ⟨K', e⟩ := c98_6 m w0 [some [m.row]] h 0 (by omega) ([u8 m.Flags] ++ pTwo' m.Name ++ pTwo' m.Desc ++ pOne m.Deep ++ pOne m.Locals ++ pTwo' m.Code.length ++ m.Code ++ pOne m.Traps.length) [] (by simp only [mTail, List.drop_zero, List.length_append, List.length_cons, List.length_nil, pTwo'_len, pOne_len]; omega)
    simp only [List.append_nil, List.drop_zero, Int.natCast_zero] at e
    rw [e]
    simp [pMethod, ha, mTail, pOne]

end Go.Ev.Ytmljkoieihaomaa
