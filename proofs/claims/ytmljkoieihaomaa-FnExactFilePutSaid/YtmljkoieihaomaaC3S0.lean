/- Contracts. -/
import Derived.Test.YtmljkoieihaomaaC3E2
namespace Go.Ev.Ytmljkoieihaomaa
set_option linter.unusedVariables false
set_option linter.unusedSimpArgs false
open Go.Ev
/-! Structs and slices that are the same. -/
theorem SPair_dneq (a b : SPair) : bA [.int .i64, .str] .neq a.d b.d = some (.bool (!decide (a = b))) := by
  obtain ⟨a0, a1⟩ := a
  obtain ⟨b0, b1⟩ := b
  simp only [bA, SPair.row, scEqs, scEq, Option.bind_some, Option.map_some, if_true, and_self]
  congr 2
  rw [Bool.eq_iff_iff]
  simp
theorem SPair_deql (a b : SPair) : bA [.int .i64, .str] .eql a.d b.d = some (.bool (decide (a = b))) := by
  obtain ⟨a0, a1⟩ := a
  obtain ⟨b0, b1⟩ := b
  simp only [bA, SPair.row, scEqs, scEq, Option.bind_some, Option.map_some, if_true, and_self]
  congr 2
  rw [Bool.eq_iff_iff]
  simp
theorem SMark_dneq (a b : SMark) : bA [.int .i64, .str] .neq a.d b.d = some (.bool (!decide (a = b))) := by
  obtain ⟨a0, a1⟩ := a
  obtain ⟨b0, b1⟩ := b
  simp only [bA, SMark.row, scEqs, scEq, Option.bind_some, Option.map_some, if_true, and_self]
  congr 2
  rw [Bool.eq_iff_iff]
  simp
theorem SMark_deql (a b : SMark) : bA [.int .i64, .str] .eql a.d b.d = some (.bool (decide (a = b))) := by
  obtain ⟨a0, a1⟩ := a
  obtain ⟨b0, b1⟩ := b
  simp only [bA, SMark.row, scEqs, scEq, Option.bind_some, Option.map_some, if_true, and_self]
  congr 2
  rw [Bool.eq_iff_iff]
  simp
theorem SConst_dneq (a b : SConst) : bA [.int .i64, .str, .int .i64, .int .i64] .neq a.d b.d = some (.bool (!decide (a = b))) := by
  obtain ⟨a0, a1, a2, a3⟩ := a
  obtain ⟨b0, b1, b2, b3⟩ := b
  simp only [bA, SConst.row, scEqs, scEq, Option.bind_some, Option.map_some, if_true, and_self]
  congr 2
  rw [Bool.eq_iff_iff]
  simp
theorem SConst_deql (a b : SConst) : bA [.int .i64, .str, .int .i64, .int .i64] .eql a.d b.d = some (.bool (decide (a = b))) := by
  obtain ⟨a0, a1, a2, a3⟩ := a
  obtain ⟨b0, b1, b2, b3⟩ := b
  simp only [bA, SConst.row, scEqs, scEq, Option.bind_some, Option.map_some, if_true, and_self]
  congr 2
  rw [Bool.eq_iff_iff]
  simp
theorem SField_dneq (a b : SField) : bA [.int .i64, .int .i64, .int .i64] .neq a.d b.d = some (.bool (!decide (a = b))) := by
  obtain ⟨a0, a1, a2⟩ := a
  obtain ⟨b0, b1, b2⟩ := b
  simp only [bA, SField.row, scEqs, scEq, Option.bind_some, Option.map_some, if_true, and_self]
  congr 2
  rw [Bool.eq_iff_iff]
  simp
theorem SField_deql (a b : SField) : bA [.int .i64, .int .i64, .int .i64] .eql a.d b.d = some (.bool (decide (a = b))) := by
  obtain ⟨a0, a1, a2⟩ := a
  obtain ⟨b0, b1, b2⟩ := b
  simp only [bA, SField.row, scEqs, scEq, Option.bind_some, Option.map_some, if_true, and_self]
  congr 2
  rw [Bool.eq_iff_iff]
  simp
theorem STrap_dneq (a b : STrap) : bA [.int .i64, .int .i64, .int .i64, .int .i64] .neq a.d b.d = some (.bool (!decide (a = b))) := by
  obtain ⟨a0, a1, a2, a3⟩ := a
  obtain ⟨b0, b1, b2, b3⟩ := b
  simp only [bA, STrap.row, scEqs, scEq, Option.bind_some, Option.map_some, if_true, and_self]
  congr 2
  rw [Bool.eq_iff_iff]
  simp
theorem STrap_deql (a b : STrap) : bA [.int .i64, .int .i64, .int .i64, .int .i64] .eql a.d b.d = some (.bool (decide (a = b))) := by
  obtain ⟨a0, a1, a2, a3⟩ := a
  obtain ⟨b0, b1, b2, b3⟩ := b
  simp only [bA, STrap.row, scEqs, scEq, Option.bind_some, Option.map_some, if_true, and_self]
  congr 2
  rw [Bool.eq_iff_iff]
  simp
theorem SKind_dneq (a b : SKind) : bA [.int .i64, .int .i64] .neq a.d b.d = some (.bool (!decide (a = b))) := by
  obtain ⟨a0, a1⟩ := a
  obtain ⟨b0, b1⟩ := b
  simp only [bA, SKind.row, scEqs, scEq, Option.bind_some, Option.map_some, if_true, and_self]
  congr 2
  rw [Bool.eq_iff_iff]
  simp
theorem SKind_deql (a b : SKind) : bA [.int .i64, .int .i64] .eql a.d b.d = some (.bool (decide (a = b))) := by
  obtain ⟨a0, a1⟩ := a
  obtain ⟨b0, b1⟩ := b
  simp only [bA, SKind.row, scEqs, scEq, Option.bind_some, Option.map_some, if_true, and_self]
  congr 2
  rw [Bool.eq_iff_iff]
  simp
theorem SLine_dneq (a b : SLine) : bA [.int .i64, .str, .str, .int .i64, .int .i64, .int .i64] .neq a.d b.d = some (.bool (!decide (a = b))) := by
  obtain ⟨a0, a1, a2, a3, a4, a5⟩ := a
  obtain ⟨b0, b1, b2, b3, b4, b5⟩ := b
  simp only [bA, SLine.row, scEqs, scEq, Option.bind_some, Option.map_some, if_true, and_self]
  congr 2
  rw [Bool.eq_iff_iff]
  simp
theorem SLine_deql (a b : SLine) : bA [.int .i64, .str, .str, .int .i64, .int .i64, .int .i64] .eql a.d b.d = some (.bool (decide (a = b))) := by
  obtain ⟨a0, a1, a2, a3, a4, a5⟩ := a
  obtain ⟨b0, b1, b2, b3, b4, b5⟩ := b
  simp only [bA, SLine.row, scEqs, scEq, Option.bind_some, Option.map_some, if_true, and_self]
  congr 2
  rw [Bool.eq_iff_iff]
  simp
theorem STaker_dneq (a b : STaker) : bA [.str, .bool] .neq a.d b.d = some (.bool (!decide (a = b))) := by
  obtain ⟨a0, a1⟩ := a
  obtain ⟨b0, b1⟩ := b
  simp only [bA, STaker.row, scEqs, scEq, Option.bind_some, Option.map_some, if_true, and_self]
  congr 2
  rw [Bool.eq_iff_iff]
  simp
theorem STaker_deql (a b : STaker) : bA [.str, .bool] .eql a.d b.d = some (.bool (decide (a = b))) := by
  obtain ⟨a0, a1⟩ := a
  obtain ⟨b0, b1⟩ := b
  simp only [bA, STaker.row, scEqs, scEq, Option.bind_some, Option.map_some, if_true, and_self]
  congr 2
  rw [Bool.eq_iff_iff]
  simp
theorem SFile_dneq (a b : SFile) : bA [.str, .str] .neq a.d b.d = some (.bool (!decide (a = b))) := by
  obtain ⟨a0, a1⟩ := a
  obtain ⟨b0, b1⟩ := b
  simp only [bA, SFile.row, scEqs, scEq, Option.bind_some, Option.map_some, if_true, and_self]
  congr 2
  rw [Bool.eq_iff_iff]
  simp
theorem SFile_deql (a b : SFile) : bA [.str, .str] .eql a.d b.d = some (.bool (decide (a = b))) := by
  obtain ⟨a0, a1⟩ := a
  obtain ⟨b0, b1⟩ := b
  simp only [bA, SFile.row, scEqs, scEq, Option.bind_some, Option.map_some, if_true, and_self]
  congr 2
  rw [Bool.eq_iff_iff]
  simp
theorem SWay_dneq (a b : SWay) : bA [.str, .int .i64] .neq a.d b.d = some (.bool (!decide (a = b))) := by
  obtain ⟨a0, a1⟩ := a
  obtain ⟨b0, b1⟩ := b
  simp only [bA, SWay.row, scEqs, scEq, Option.bind_some, Option.map_some, if_true, and_self]
  congr 2
  rw [Bool.eq_iff_iff]
  simp
theorem SWay_deql (a b : SWay) : bA [.str, .int .i64] .eql a.d b.d = some (.bool (decide (a = b))) := by
  obtain ⟨a0, a1⟩ := a
  obtain ⟨b0, b1⟩ := b
  simp only [bA, SWay.row, scEqs, scEq, Option.bind_some, Option.map_some, if_true, and_self]
  congr 2
  rw [Bool.eq_iff_iff]
  simp
theorem SKnown_dneq (a b : SKnown) : bA [.int .i64, .str, .int .i64] .neq a.d b.d = some (.bool (!decide (a = b))) := by
  obtain ⟨a0, a1, a2⟩ := a
  obtain ⟨b0, b1, b2⟩ := b
  simp only [bA, SKnown.row, scEqs, scEq, Option.bind_some, Option.map_some, if_true, and_self]
  congr 2
  rw [Bool.eq_iff_iff]
  simp
theorem SKnown_deql (a b : SKnown) : bA [.int .i64, .str, .int .i64] .eql a.d b.d = some (.bool (decide (a = b))) := by
  obtain ⟨a0, a1, a2⟩ := a
  obtain ⟨b0, b1, b2⟩ := b
  simp only [bA, SKnown.row, scEqs, scEq, Option.bind_some, Option.map_some, if_true, and_self]
  congr 2
  rw [Bool.eq_iff_iff]
  simp
theorem SSlot_dneq (a b : SSlot) : bA [.int .i64, .int .i64] .neq a.d b.d = some (.bool (!decide (a = b))) := by
  obtain ⟨a0, a1⟩ := a
  obtain ⟨b0, b1⟩ := b
  simp only [bA, SSlot.row, scEqs, scEq, Option.bind_some, Option.map_some, if_true, and_self]
  congr 2
  rw [Bool.eq_iff_iff]
  simp
theorem SSlot_deql (a b : SSlot) : bA [.int .i64, .int .i64] .eql a.d b.d = some (.bool (decide (a = b))) := by
  obtain ⟨a0, a1⟩ := a
  obtain ⟨b0, b1⟩ := b
  simp only [bA, SSlot.row, scEqs, scEq, Option.bind_some, Option.map_some, if_true, and_self]
  congr 2
  rw [Bool.eq_iff_iff]
  simp
theorem SRow_dneq (a b : SRow) : bA [.str, .str, .int .i64, .int .i64] .neq a.d b.d = some (.bool (!decide (a = b))) := by
  obtain ⟨a0, a1, a2, a3⟩ := a
  obtain ⟨b0, b1, b2, b3⟩ := b
  simp only [bA, SRow.row, scEqs, scEq, Option.bind_some, Option.map_some, if_true, and_self]
  congr 2
  rw [Bool.eq_iff_iff]
  simp
theorem SRow_deql (a b : SRow) : bA [.str, .str, .int .i64, .int .i64] .eql a.d b.d = some (.bool (decide (a = b))) := by
  obtain ⟨a0, a1, a2, a3⟩ := a
  obtain ⟨b0, b1, b2, b3⟩ := b
  simp only [bA, SRow.row, scEqs, scEq, Option.bind_some, Option.map_some, if_true, and_self]
  congr 2
  rw [Bool.eq_iff_iff]
  simp
theorem SVal_dneq (a b : SVal) : bA [.int .i64, .int .i64] .neq a.d b.d = some (.bool (!decide (a = b))) := by
  obtain ⟨a0, a1⟩ := a
  obtain ⟨b0, b1⟩ := b
  simp only [bA, SVal.row, scEqs, scEq, Option.bind_some, Option.map_some, if_true, and_self]
  congr 2
  rw [Bool.eq_iff_iff]
  simp
theorem SVal_deql (a b : SVal) : bA [.int .i64, .int .i64] .eql a.d b.d = some (.bool (decide (a = b))) := by
  obtain ⟨a0, a1⟩ := a
  obtain ⟨b0, b1⟩ := b
  simp only [bA, SVal.row, scEqs, scEq, Option.bind_some, Option.map_some, if_true, and_self]
  congr 2
  rw [Bool.eq_iff_iff]
  simp
theorem SFault_dneq (a b : SFault) : bA [.int .i64, .str] .neq a.d b.d = some (.bool (!decide (a = b))) := by
  obtain ⟨a0, a1⟩ := a
  obtain ⟨b0, b1⟩ := b
  simp only [bA, SFault.row, scEqs, scEq, Option.bind_some, Option.map_some, if_true, and_self]
  congr 2
  rw [Bool.eq_iff_iff]
  simp
theorem SFault_deql (a b : SFault) : bA [.int .i64, .str] .eql a.d b.d = some (.bool (decide (a = b))) := by
  obtain ⟨a0, a1⟩ := a
  obtain ⟨b0, b1⟩ := b
  simp only [bA, SFault.row, scEqs, scEq, Option.bind_some, Option.map_some, if_true, and_self]
  congr 2
  rw [Bool.eq_iff_iff]
  simp
theorem SAsked_dneq (a b : SAsked) : bA [.int .i64, .str] .neq a.d b.d = some (.bool (!decide (a = b))) := by
  obtain ⟨a0, a1⟩ := a
  obtain ⟨b0, b1⟩ := b
  simp only [bA, SAsked.row, scEqs, scEq, Option.bind_some, Option.map_some, if_true, and_self]
  congr 2
  rw [Bool.eq_iff_iff]
  simp
theorem SAsked_deql (a b : SAsked) : bA [.int .i64, .str] .eql a.d b.d = some (.bool (decide (a = b))) := by
  obtain ⟨a0, a1⟩ := a
  obtain ⟨b0, b1⟩ := b
  simp only [bA, SAsked.row, scEqs, scEq, Option.bind_some, Option.map_some, if_true, and_self]
  congr 2
  rw [Bool.eq_iff_iff]
  simp
theorem SPick_dneq (a b : SPick) : bA [.int .i64, .int .i64, .int .i64, .str] .neq a.d b.d = some (.bool (!decide (a = b))) := by
  obtain ⟨a0, a1, a2, a3⟩ := a
  obtain ⟨b0, b1, b2, b3⟩ := b
  simp only [bA, SPick.row, scEqs, scEq, Option.bind_some, Option.map_some, if_true, and_self]
  congr 2
  rw [Bool.eq_iff_iff]
  simp
theorem SPick_deql (a b : SPick) : bA [.int .i64, .int .i64, .int .i64, .str] .eql a.d b.d = some (.bool (decide (a = b))) := by
  obtain ⟨a0, a1, a2, a3⟩ := a
  obtain ⟨b0, b1, b2, b3⟩ := b
  simp only [bA, SPick.row, scEqs, scEq, Option.bind_some, Option.map_some, if_true, and_self]
  congr 2
  rw [Bool.eq_iff_iff]
  simp
theorem c108_4 (a b : List Int) (wa : a.length ≤ 140737488351232) (hlen : a.length = b.length) (H : Heap) : ∀ i, i ≤ a.length → J E 108 4 [.list (a.map rInt), .list (b.map rInt), .int .i64 a.length, .int .i64 i] H = some (.bool (decide (a.drop i = b.drop i)), H) := by
  apply loop_up
  · rw [j108_4]; simp [hlen]
  · intro i hi ih
    have hi' : i < b.length := by omega
    have hlt : ((i : Nat) : Int) < (a.length : Int) := by omega
    rw [j108_4]
    rw [ia_list (n := (i : Int)) (esz := 1) (by omega) (by simpa using hi) (by simp [rInt])]
    rw [ia_list (n := (i : Int)) (esz := 1) (by omega) (by simpa using hi') (by simp [rInt])]
    simp only [bI_lss, hlt, decide_true, cond_true, asB_bool, Option.bind_some, ld_el, Int.toNat_natCast, List.getElem_map]
    rw [show part (rInt a[i]) (0, 1, false) = some (.int .i64 a[i]) from rfl, show part (rInt b[i]) (0, 1, false) = some (.int .i64 b[i]) from rfl]
    simp only [Option.bind_some, bI_neq, bI_add, asB_bool]
    rw [wrap_i64 (n := (i : Int) + 1) (by omega) (by omega), drop_dec hi hi']
    by_cases h : a[i] = b[i]
    · simp only [h, decide_true, Bool.not_true, cond_false, Bool.true_and]
      exact ih
    · simp [h]
theorem c108 (a b : List Int) (wa : a.length ≤ 140737488351232) : run E (exec E) false 108 [.list (a.map rInt), .list (b.map rInt)] = some (.bool (decide (a = b))) := by
  rw [run_ent, e108]
  by_cases h : a.length = b.length
  · have := c108_4 a b wa h [] 0 (by omega)
    simp only [Int.natCast_zero] at this
    simp [h]
    rw [← h]; simp [this]
  · have : a ≠ b := fun e => h (by rw [e])
    simp [show ¬ (a.length : Int) = b.length by omega, this]
theorem c107_4 (a b : List SConst) (wa : a.length ≤ 140737488351232) (hlen : a.length = b.length) (H : Heap) : ∀ i, i ≤ a.length → J E 107 4 [.list (a.map SConst.row), .list (b.map SConst.row), .int .i64 a.length, .int .i64 i] H = some (.bool (decide (a.drop i = b.drop i)), H) := by
  apply loop_up
  · rw [j107_4]; simp [hlen]
  · intro i hi ih
    have hi' : i < b.length := by omega
    have hlt : ((i : Nat) : Int) < (a.length : Int) := by omega
    rw [j107_4]
    rw [ia_list (n := (i : Int)) (esz := 4) (by omega) (by simpa using hi) (by simp [SConst.row])]
    rw [ia_list (n := (i : Int)) (esz := 4) (by omega) (by simpa using hi') (by simp [SConst.row])]
    simp only [bI_lss, hlt, decide_true, cond_true, asB_bool, Option.bind_some, ld_el, Int.toNat_natCast, List.getElem_map]
    rw [show part (SConst.row a[i]) (0, 4, true) = some (a[i]).d from rfl, show part (SConst.row b[i]) (0, 4, true) = some (b[i]).d from rfl]
    simp only [Option.bind_some, SConst_dneq, bI_add, asB_bool]
    rw [wrap_i64 (n := (i : Int) + 1) (by omega) (by omega), drop_dec hi hi']
    by_cases h : a[i] = b[i]
    · simp only [h, decide_true, Bool.not_true, cond_false, Bool.true_and]
      exact ih
    · simp [h]
theorem c107 (a b : List SConst) (wa : a.length ≤ 140737488351232) : run E (exec E) false 107 [.list (a.map SConst.row), .list (b.map SConst.row)] = some (.bool (decide (a = b))) := by
  rw [run_ent, e107]
  by_cases h : a.length = b.length
  · have := c107_4 a b wa h [] 0 (by omega)
    simp only [Int.natCast_zero] at this
    simp [h]
    rw [← h]; simp [this]
  · have : a ≠ b := fun e => h (by rw [e])
    simp [show ¬ (a.length : Int) = b.length by omega, this]
theorem c109_4 (a b : List SField) (wa : a.length ≤ 140737488351232) (hlen : a.length = b.length) (H : Heap) : ∀ i, i ≤ a.length → J E 109 4 [.list (a.map SField.row), .list (b.map SField.row), .int .i64 a.length, .int .i64 i] H = some (.bool (decide (a.drop i = b.drop i)), H) := by
  apply loop_up
  · rw [j109_4]; simp [hlen]
  · intro i hi ih
    have hi' : i < b.length := by omega
    have hlt : ((i : Nat) : Int) < (a.length : Int) := by omega
    rw [j109_4]
    rw [ia_list (n := (i : Int)) (esz := 3) (by omega) (by simpa using hi) (by simp [SField.row])]
    rw [ia_list (n := (i : Int)) (esz := 3) (by omega) (by simpa using hi') (by simp [SField.row])]
    simp only [bI_lss, hlt, decide_true, cond_true, asB_bool, Option.bind_some, ld_el, Int.toNat_natCast, List.getElem_map]
    rw [show part (SField.row a[i]) (0, 3, true) = some (a[i]).d from rfl, show part (SField.row b[i]) (0, 3, true) = some (b[i]).d from rfl]
    simp only [Option.bind_some, SField_dneq, bI_add, asB_bool]
    rw [wrap_i64 (n := (i : Int) + 1) (by omega) (by omega), drop_dec hi hi']
    by_cases h : a[i] = b[i]
    · simp only [h, decide_true, Bool.not_true, cond_false, Bool.true_and]
      exact ih
    · simp [h]
theorem c109 (a b : List SField) (wa : a.length ≤ 140737488351232) : run E (exec E) false 109 [.list (a.map SField.row), .list (b.map SField.row)] = some (.bool (decide (a = b))) := by
  rw [run_ent, e109]
  by_cases h : a.length = b.length
  · have := c109_4 a b wa h [] 0 (by omega)
    simp only [Int.natCast_zero] at this
    simp [h]
    rw [← h]; simp [this]
  · have : a ≠ b := fun e => h (by rw [e])
    simp [show ¬ (a.length : Int) = b.length by omega, this]
theorem c142_4 (a b : List STrap) (wa : a.length ≤ 140737488351232) (hlen : a.length = b.length) (H : Heap) : ∀ i, i ≤ a.length → J E 142 4 [.list (a.map STrap.row), .list (b.map STrap.row), .int .i64 a.length, .int .i64 i] H = some (.bool (decide (a.drop i = b.drop i)), H) := by
  apply loop_up
  · rw [j142_4]; simp [hlen]
  · intro i hi ih
    have hi' : i < b.length := by omega
    have hlt : ((i : Nat) : Int) < (a.length : Int) := by omega
    rw [j142_4]
    rw [ia_list (n := (i : Int)) (esz := 4) (by omega) (by simpa using hi) (by simp [STrap.row])]
    rw [ia_list (n := (i : Int)) (esz := 4) (by omega) (by simpa using hi') (by simp [STrap.row])]
    simp only [bI_lss, hlt, decide_true, cond_true, asB_bool, Option.bind_some, ld_el, Int.toNat_natCast, List.getElem_map]
    rw [show part (STrap.row a[i]) (0, 4, true) = some (a[i]).d from rfl, show part (STrap.row b[i]) (0, 4, true) = some (b[i]).d from rfl]
    simp only [Option.bind_some, STrap_dneq, bI_add, asB_bool]
    rw [wrap_i64 (n := (i : Int) + 1) (by omega) (by omega), drop_dec hi hi']
    by_cases h : a[i] = b[i]
    · simp only [h, decide_true, Bool.not_true, cond_false, Bool.true_and]
      exact ih
    · simp [h]
theorem c142 (a b : List STrap) (wa : a.length ≤ 140737488351232) : run E (exec E) false 142 [.list (a.map STrap.row), .list (b.map STrap.row)] = some (.bool (decide (a = b))) := by
  rw [run_ent, e142]
  by_cases h : a.length = b.length
  · have := c142_4 a b wa h [] 0 (by omega)
    simp only [Int.natCast_zero] at this
    simp [h]
    rw [← h]; simp [this]
  · have : a ≠ b := fun e => h (by rw [e])
    simp [show ¬ (a.length : Int) = b.length by omega, this]
theorem c145_4 (a b : List SKind) (wa : a.length ≤ 140737488351232) (hlen : a.length = b.length) (H : Heap) : ∀ i, i ≤ a.length → J E 145 4 [.list (a.map SKind.row), .list (b.map SKind.row), .int .i64 a.length, .int .i64 i] H = some (.bool (decide (a.drop i = b.drop i)), H) := by
  apply loop_up
  · rw [j145_4]; simp [hlen]
  · intro i hi ih
    have hi' : i < b.length := by omega
    have hlt : ((i : Nat) : Int) < (a.length : Int) := by omega
    rw [j145_4]
    rw [ia_list (n := (i : Int)) (esz := 2) (by omega) (by simpa using hi) (by simp [SKind.row])]
    rw [ia_list (n := (i : Int)) (esz := 2) (by omega) (by simpa using hi') (by simp [SKind.row])]
    simp only [bI_lss, hlt, decide_true, cond_true, asB_bool, Option.bind_some, ld_el, Int.toNat_natCast, List.getElem_map]
    rw [show part (SKind.row a[i]) (0, 2, true) = some (a[i]).d from rfl, show part (SKind.row b[i]) (0, 2, true) = some (b[i]).d from rfl]
    simp only [Option.bind_some, SKind_dneq, bI_add, asB_bool]
    rw [wrap_i64 (n := (i : Int) + 1) (by omega) (by omega), drop_dec hi hi']
    by_cases h : a[i] = b[i]
    · simp only [h, decide_true, Bool.not_true, cond_false, Bool.true_and]
      exact ih
    · simp [h]
theorem c145 (a b : List SKind) (wa : a.length ≤ 140737488351232) : run E (exec E) false 145 [.list (a.map SKind.row), .list (b.map SKind.row)] = some (.bool (decide (a = b))) := by
  rw [run_ent, e145]
  by_cases h : a.length = b.length
  · have := c145_4 a b wa h [] 0 (by omega)
    simp only [Int.natCast_zero] at this
    simp [h]
    rw [← h]; simp [this]
  · have : a ≠ b := fun e => h (by rw [e])
    simp [show ¬ (a.length : Int) = b.length by omega, this]
theorem c143_4 (a b : List SFrame) (wa : a.length ≤ 140737488351232) (hlen : a.length = b.length) (g : FuncId) (cs : List D) (H : Heap) (hg : ∀ x ∈ a, ∀ y ∈ b, ∀ K, ∃ K', callFn E (exec E) (modeT 143 g) g ([x.d, y.d] ++ cs) (H ++ K) = some (.bool (decide (x = y)), H ++ K')) : ∀ i, i ≤ a.length → ∀ K, ∃ K', J E 143 4 [.list (b.map SFrame.row), .fn g cs, .list (a.map SFrame.row), .int .i64 a.length, .int .i64 i] (H ++ K) = some (.bool (decide (a.drop i = b.drop i)), H ++ K') := by
  apply loop_up
  · intro K
    rw [j143_4]
    simp only [bI_lss, Int.lt_irrefl, decide_false, Option.bind_some, asB_bool, cond_false, List.drop_length]
    rw [List.drop_of_length_le (by omega)]
    exact ⟨K, rfl⟩
  · intro i hi ih K
    have hi' : i < b.length := by omega
    have hlt : ((i : Nat) : Int) < (a.length : Int) := by omega
    rw [j143_4, drop_dec hi hi']
    rw [ia_list (n := (i : Int)) (esz := 3) (by omega) (by simpa using hi) (by simp)]
    simp only [bI_lss, hlt, decide_true, cond_true, asB_bool, Option.bind_some, ld_el, Int.toNat_natCast, List.getElem_map]
    rw [show part (a[i]).row (0, 3, true) = some (a[i]).d from rfl]
    simp only [Option.bind_some]
    rw [alloc_eq _ _ _ rfl, put_loc (z := 3) (H ++ K) [.int .i64 0, .sl0, .sl0] (a[i]).row rfl rfl rfl]
    simp only [Option.bind_some]
    rw [ia_list (n := (i : Int)) (esz := 3) (by omega) (by simpa using hi') (by simp)]
    simp only [Option.bind_some, ld_el, Int.toNat_natCast, List.getElem_map]
    rw [show part (b[i]).row (0, 3, true) = some (b[i]).d from rfl]
    simp only [Option.bind_some]
    rw [alloc_eq _ _ _ rfl, put_loc (z := 3) (H ++ K ++ [some [(a[i]).row]]) [.int .i64 0, .sl0, .sl0] (b[i]).row rfl rfl rfl]
    have l1 : ld true 3 (H ++ K ++ [some [(a[i]).row]] ++ [some [(b[i]).row]]) (.ptr (H ++ K).length 0 0) = some (a[i]).d := by rw [List.append_assoc, List.singleton_append, ld_loc]; rfl
    have l2 : ld true 3 (H ++ K ++ [some [(a[i]).row]] ++ [some [(b[i]).row]]) (.ptr (H ++ K ++ [some [(a[i]).row]]).length 0 0) = some (b[i]).d := by rw [ld_loc]; rfl
    simp only [Option.bind_some, l1, l2, asFn_fn]
    obtain ⟨K1, e1⟩ := hg a[i] (List.getElem_mem hi) b[i] (List.getElem_mem hi') (K ++ [some [(a[i]).row]] ++ [some [(b[i]).row]])
    rw [show H ++ (K ++ [some [(a[i]).row]] ++ [some [(b[i]).row]]) = H ++ K ++ [some [(a[i]).row]] ++ [some [(b[i]).row]] by simp] at e1
    simp only [e1, Option.bind_some, unOp_not, asB_bool, bI_add]
    rw [wrap_i64 (n := (i : Int) + 1) (by omega) (by omega)]
    by_cases h : a[i] = b[i]
    · simp only [h, decide_true, Bool.not_true, cond_false, Bool.true_and]
      exact ih K1
    · simp only [h, decide_false, Bool.not_false, cond_true, Bool.false_and]
      exact ⟨K1, rfl⟩
theorem c143 (a b : List SFrame) (wa : a.length ≤ 140737488351232) (g : FuncId) (cs : List D) (H : Heap) (hg : ∀ x ∈ a, ∀ y ∈ b, ∀ K, ∃ K', callFn E (exec E) (modeT 143 g) g ([x.d, y.d] ++ cs) (H ++ K) = some (.bool (decide (x = y)), H ++ K')) : ∃ K', ent E 143 [.list (a.map SFrame.row), .list (b.map SFrame.row), .fn g cs] H = some (.bool (decide (a = b)), H ++ K') := by
  rw [e143]
  simp only [lnL_list, List.length_map, Option.bind_some, bI_neq, asB_bool]
  by_cases h : a.length = b.length
  · obtain ⟨K', e⟩ := c143_4 a b wa h g cs H hg 0 (by omega) []
    simp only [List.drop_zero, Int.natCast_zero, List.append_nil] at e
    simp only [show (a.length : Int) = b.length by omega, decide_true, Bool.not_true, cond_false]
    rw [show (b.length : Int) = a.length by omega]
    exact ⟨K', e⟩
  · have hne : a ≠ b := fun e => h (by rw [e])
    simp only [show ¬ (a.length : Int) = b.length by omega, hne, decide_false, Bool.not_false, cond_true]
    exact ⟨[], by simp⟩
theorem c110_4 (a b : List SMethod) (wa : a.length ≤ 140737488351232) (hlen : a.length = b.length) (g : FuncId) (cs : List D) (H : Heap) (hg : ∀ x ∈ a, ∀ y ∈ b, ∀ K, ∃ K', callFn E (exec E) (modeT 110 g) g ([x.d, y.d] ++ cs) (H ++ K) = some (.bool (decide (x = y)), H ++ K')) : ∀ i, i ≤ a.length → ∀ K, ∃ K', J E 110 4 [.list (b.map SMethod.row), .fn g cs, .list (a.map SMethod.row), .int .i64 a.length, .int .i64 i] (H ++ K) = some (.bool (decide (a.drop i = b.drop i)), H ++ K') := by
  apply loop_up
  · intro K
    rw [j110_4]
    simp only [bI_lss, Int.lt_irrefl, decide_false, Option.bind_some, asB_bool, cond_false, List.drop_length]
    rw [List.drop_of_length_le (by omega)]
    exact ⟨K, rfl⟩
  · intro i hi ih K
    have hi' : i < b.length := by omega
    have hlt : ((i : Nat) : Int) < (a.length : Int) := by omega
    rw [j110_4, drop_dec hi hi']
    rw [ia_list (n := (i : Int)) (esz := 8) (by omega) (by simpa using hi) (by simp)]
    simp only [bI_lss, hlt, decide_true, cond_true, asB_bool, Option.bind_some, ld_el, Int.toNat_natCast, List.getElem_map]
    rw [show part (a[i]).row (0, 8, true) = some (a[i]).d from rfl]
    simp only [Option.bind_some]
    rw [alloc_eq _ _ _ rfl, put_loc (z := 8) (H ++ K) [.int .i64 0, .int .i64 0, .int .i64 0, .int .i64 0, .int .i64 0, .str [], .sl0, .sl0] (a[i]).row rfl rfl rfl]
    simp only [Option.bind_some]
    rw [ia_list (n := (i : Int)) (esz := 8) (by omega) (by simpa using hi') (by simp)]
    simp only [Option.bind_some, ld_el, Int.toNat_natCast, List.getElem_map]
    rw [show part (b[i]).row (0, 8, true) = some (b[i]).d from rfl]
    simp only [Option.bind_some]
    rw [alloc_eq _ _ _ rfl, put_loc (z := 8) (H ++ K ++ [some [(a[i]).row]]) [.int .i64 0, .int .i64 0, .int .i64 0, .int .i64 0, .int .i64 0, .str [], .sl0, .sl0] (b[i]).row rfl rfl rfl]
    have l1 : ld true 8 (H ++ K ++ [some [(a[i]).row]] ++ [some [(b[i]).row]]) (.ptr (H ++ K).length 0 0) = some (a[i]).d := by rw [List.append_assoc, List.singleton_append, ld_loc]; rfl
    have l2 : ld true 8 (H ++ K ++ [some [(a[i]).row]] ++ [some [(b[i]).row]]) (.ptr (H ++ K ++ [some [(a[i]).row]]).length 0 0) = some (b[i]).d := by rw [ld_loc]; rfl
    simp only [Option.bind_some, l1, l2, asFn_fn]
    obtain ⟨K1, e1⟩ := hg a[i] (List.getElem_mem hi) b[i] (List.getElem_mem hi') (K ++ [some [(a[i]).row]] ++ [some [(b[i]).row]])
    rw [show H ++ (K ++ [some [(a[i]).row]] ++ [some [(b[i]).row]]) = H ++ K ++ [some [(a[i]).row]] ++ [some [(b[i]).row]] by simp] at e1
    simp only [e1, Option.bind_some, unOp_not, asB_bool, bI_add]
    rw [wrap_i64 (n := (i : Int) + 1) (by omega) (by omega)]
    by_cases h : a[i] = b[i]
    · simp only [h, decide_true, Bool.not_true, cond_false, Bool.true_and]
      exact ih K1
    · simp only [h, decide_false, Bool.not_false, cond_true, Bool.false_and]
      exact ⟨K1, rfl⟩
theorem c110 (a b : List SMethod) (wa : a.length ≤ 140737488351232) (g : FuncId) (cs : List D) (H : Heap) (hg : ∀ x ∈ a, ∀ y ∈ b, ∀ K, ∃ K', callFn E (exec E) (modeT 110 g) g ([x.d, y.d] ++ cs) (H ++ K) = some (.bool (decide (x = y)), H ++ K')) : ∃ K', ent E 110 [.list (a.map SMethod.row), .list (b.map SMethod.row), .fn g cs] H = some (.bool (decide (a = b)), H ++ K') := by
  rw [e110]
  simp only [lnL_list, List.length_map, Option.bind_some, bI_neq, asB_bool]
  by_cases h : a.length = b.length
  · obtain ⟨K', e⟩ := c110_4 a b wa h g cs H hg 0 (by omega) []
    simp only [List.drop_zero, Int.natCast_zero, List.append_nil] at e
    simp only [show (a.length : Int) = b.length by omega, decide_true, Bool.not_true, cond_false]
    rw [show (b.length : Int) = a.length by omega]
    exact ⟨K', e⟩
  · have hne : a ≠ b := fun e => h (by rw [e])
    simp only [show ¬ (a.length : Int) = b.length by omega, hne, decide_false, Bool.not_false, cond_true]
    exact ⟨[], by simp⟩
end Go.Ev.Ytmljkoieihaomaa
