/- Contracts. -/
import Derived.Test.YtmljkoieihaomaaC3E2
namespace Go.Ev.Ytmljkoieihaomaa
set_option linter.unusedVariables false
set_option linter.unusedSimpArgs false
open Go.Ev
/-! Structs and slices that are the same. -/
theorem SPair_dneq (a b : SPair) : bA [.int .i64, .str] .neq a.d b.d = some (.bool (!decide (a = b))) := by
  obtain ⟨a0, a1⟩ := a
  obtain ⟨b0, b1⟩ := b
  simp only [bA, SPair.row, scEqs, scEq, Option.bind_some, Option.map_some, if_true, and_self]
  congr 2
  rw [Bool.eq_iff_iff]
  simp
theorem SPair_deql (a b : SPair) : bA [.int .i64, .str] .eql a.d b.d = some (.bool (decide (a = b))) := by
  obtain ⟨a0, a1⟩ := a
  obtain ⟨b0, b1⟩ := b
  simp only [bA, SPair.row, scEqs, scEq, Option.bind_some, Option.map_some, if_true, and_self]
  congr 2
  rw [Bool.eq_iff_iff]
  simp
theorem SMark_dneq (a b : SMark) : bA [.int .i64, .str] .neq a.d b.d = some (.bool (!decide (a = b))) := by
  obtain ⟨a0, a1⟩ := a
  obtain ⟨b0, b1⟩ := b
  simp only [bA, SMark.row, scEqs, scEq, Option.bind_some, Option.map_some, if_true, and_self]
  congr 2
  rw [Bool.eq_iff_iff]
  simp
theorem SMark_deql (a b : SMark) : bA [.int .i64, .str] .eql a.d b.d = some (.bool (decide (a = b))) := by
  obtain ⟨a0, a1⟩ := a
  obtain ⟨b0, b1⟩ := b
  simp only [bA, SMark.row, scEqs, scEq, Option.bind_some, Option.map_some, if_true, and_self]
  congr 2
  rw [Bool.eq_iff_iff]
  simp
theorem SConst_dneq (a b : SConst) : bA [.int .i64, .str, .int .i64, .int .i64] .neq a.d b.d = some (.bool (!decide (a = b))) := by
  obtain ⟨a0, a1, a2, a3⟩ := a
  obtain ⟨b0, b1, b2, b3⟩ := b
  simp only [bA, SConst.row, scEqs, scEq, Option.bind_some, Option.map_some, if_true, and_self]
  congr 2
  rw [Bool.eq_iff_iff]
  simp
theorem SConst_deql (a b : SConst) : bA [.int .i64, .str, .int .i64, .int .i64] .eql a.d b.d = some (.bool (decide (a = b))) := by
  obtain ⟨a0, a1, a2, a3⟩ := a
  obtain ⟨b0, b1, b2, b3⟩ := b
  simp only [bA, SConst.row, scEqs, scEq, Option.bind_some, Option.map_some, if_true, and_self]
  congr 2
  rw [Bool.eq_iff_iff]
  simp
theorem SField_dneq (a b : SField) : bA [.int .i64, .int .i64, .int .i64] .neq a.d b.d = some (.bool (!decide (a = b))) := by
  obtain ⟨a0, a1, a2⟩ := a
  obtain ⟨b0, b1, b2⟩ := b
  simp only [bA, SField.row, scEqs, scEq, Option.bind_some, Option.map_some, if_true, and_self]
  congr 2
  rw [Bool.eq_iff_iff]
  simp
theorem SField_deql (a b : SField) : bA [.int .i64, .int .i64, .int .i64] .eql a.d b.d = some (.bool (decide (a = b))) := by
  obtain ⟨a0, a1, a2⟩ := a
  obtain ⟨b0, b1, b2⟩ := b
  simp only [bA, SField.row, scEqs, scEq, Option.bind_some, Option.map_some, if_true, and_self]
  congr 2
  rw [Bool.eq_iff_iff]
  simp
theorem STrap_dneq (a b : STrap) : bA [.int .i64, .int .i64, .int .i64, .int .i64] .neq a.d b.d = some (.bool (!decide (a = b))) := by
  obtain ⟨a0, a1, a2, a3⟩ := a
  obtain ⟨b0, b1, b2, b3⟩ := b
  simp only [bA, STrap.row, scEqs, scEq, Option.bind_some, Option.map_some, if_true, and_self]
  congr 2
  rw [Bool.eq_iff_iff]
  simp
theorem STrap_deql (a b : STrap) : bA [.int .i64, .int .i64, .int .i64, .int .i64] .eql a.d b.d = some (.bool (decide (a = b))) := by
  obtain ⟨a0, a1, a2, a3⟩ := a
  obtain ⟨b0, b1, b2, b3⟩ := b
  simp only [bA, STrap.row, scEqs, scEq, Option.bind_some, Option.map_some, if_true, and_self]
  congr 2
  rw [Bool.eq_iff_iff]
  simp
theorem SKind_dneq (a b : SKind) : bA [.int .i64, .int .i64] .neq a.d b.d = some (.bool (!decide (a = b))) := by
  obtain ⟨a0, a1⟩ := a
  obtain ⟨b0, b1⟩ := b
  simp only [bA, SKind.row, scEqs, scEq, Option.bind_some, Option.map_some, if_true, and_self]
  congr 2
  rw [Bool.eq_iff_iff]
  simp
theorem SKind_deql (a b : SKind) : bA [.int .i64, .int .i64] .eql a.d b.d = some (.bool (decide (a = b))) := by
  obtain ⟨a0, a1⟩ := a
  obtain ⟨b0, b1⟩ := b
  simp only [bA, SKind.row, scEqs, scEq, Option.bind_some, Option.map_some, if_true, and_self]
  congr 2
  rw [Bool.eq_iff_iff]
  simp
theorem SLine_dneq (a b : SLine) : bA [.int .i64, .str, .str, .int .i64, .int .i64, .int .i64] .neq a.d b.d = some (.bool (!decide (a = b))) := by
  obtain ⟨a0, a1, a2, a3, a4, a5⟩ := a
  obtain ⟨b0, b1, b2, b3, b4, b5⟩ := b
  simp only [bA, SLine.row, scEqs, scEq, Option.bind_some, Option.map_some, if_true, and_self]
  congr 2
  rw [Bool.eq_iff_iff]
  simp
theorem SLine_deql (a b : SLine) : bA [.int .i64, .str, .str, .int .i64, .int .i64, .int .i64] .eql a.d b.d = some (.bool (decide (a = b))) := by
  obtain ⟨a0, a1, a2, a3, a4, a5⟩ := a
  obtain ⟨b0, b1, b2, b3, b4, b5⟩ := b
  simp only [bA, SLine.row, scEqs, scEq, Option.bind_some, Option.map_some, if_true, and_self]
  congr 2
  rw [Bool.eq_iff_iff]
  simp
theorem STaker_dneq (a b : STaker) : bA [.str, .bool] .neq a.d b.d = some (.bool (!decide (a = b))) := by
  obtain ⟨a0, a1⟩ := a
  obtain ⟨b0, b1⟩ := b
  simp only [bA, STaker.row, scEqs, scEq, Option.bind_some, Option.map_some, if_true, and_self]
  congr 2
  rw [Bool.eq_iff_iff]
  simp
theorem STaker_deql (a b : STaker) : bA [.str, .bool] .eql a.d b.d = some (.bool (decide (a = b))) := by
  obtain ⟨a0, a1⟩ := a
  obtain ⟨b0, b1⟩ := b
  simp only [bA, STaker.row, scEqs, scEq, Option.bind_some, Option.map_some, if_true, and_self]
  congr 2
  rw [Bool.eq_iff_iff]
  simp
theorem SFile_dneq (a b : SFile) : bA [.str, .str] .neq a.d b.d = some (.bool (!decide (a = b))) := by
  obtain ⟨a0, a1⟩ := a
  obtain ⟨b0, b1⟩ := b
  simp only [bA, SFile.row, scEqs, scEq, Option.bind_some, Option.map_some, if_true, and_self]
  congr 2
  rw [Bool.eq_iff_iff]
  simp
theorem SFile_deql (a b : SFile) : bA [.str, .str] .eql a.d b.d = some (.bool (decide (a = b))) := by
  obtain ⟨a0, a1⟩ := a
  obtain ⟨b0, b1⟩ := b
  simp only [bA, SFile.row, scEqs, scEq, Option.bind_some, Option.map_some, if_true, and_self]
  congr 2
  rw [Bool.eq_iff_iff]
  simp
theorem SWay_dneq (a b : SWay) : bA [.str, .int .i64] .neq a.d b.d = some (.bool (!decide (a = b))) := by
  obtain ⟨a0, a1⟩ := a
  obtain ⟨b0, b1⟩ := b
  simp only [bA, SWay.row, scEqs, scEq, Option.bind_some, Option.map_some, if_true, and_self]
  congr 2
  rw [Bool.eq_iff_iff]
  simp
theorem SWay_deql (a b : SWay) : bA [.str, .int .i64] .eql a.d b.d = some (.bool (decide (a = b))) := by
  obtain ⟨a0, a1⟩ := a
  obtain ⟨b0, b1⟩ := b
  simp only [bA, SWay.row, scEqs, scEq, Option.bind_some, Option.map_some, if_true, and_self]
  congr 2
  rw [Bool.eq_iff_iff]
  simp
theorem SKnown_dneq (a b : SKnown) : bA [.int .i64, .str, .int .i64] .neq a.d b.d = some (.bool (!decide (a = b))) := by
  obtain ⟨a0, a1, a2⟩ := a
  obtain ⟨b0, b1, b2⟩ := b
  simp only [bA, SKnown.row, scEqs, scEq, Option.bind_some, Option.map_some, if_true, and_self]
  congr 2
  rw [Bool.eq_iff_iff]
  simp
theorem SKnown_deql (a b : SKnown) : bA [.int .i64, .str, .int .i64] .eql a.d b.d = some (.bool (decide (a = b))) := by
  obtain ⟨a0, a1, a2⟩ := a
  obtain ⟨b0, b1, b2⟩ := b
  simp only [bA, SKnown.row, scEqs, scEq, Option.bind_some, Option.map_some, if_true, and_self]
  congr 2
  rw [Bool.eq_iff_iff]
  simp
theorem SSlot_dneq (a b : SSlot) : bA [.int .i64, .int .i64] .neq a.d b.d = some (.bool (!decide (a = b))) := by
  obtain ⟨a0, a1⟩ := a
  obtain ⟨b0, b1⟩ := b
  simp only [bA, SSlot.row, scEqs, scEq, Option.bind_some, Option.map_some, if_true, and_self]
  congr 2
  rw [Bool.eq_iff_iff]
  simp
theorem SSlot_deql (a b : SSlot) : bA [.int .i64, .int .i64] .eql a.d b.d = some (.bool (decide (a = b))) := by
  obtain ⟨a0, a1⟩ := a
  obtain ⟨b0, b1⟩ := b
  simp only [bA, SSlot.row, scEqs, scEq, Option.bind_some, Option.map_some, if_true, and_self]
  congr 2
  rw [Bool.eq_iff_iff]
  simp
theorem SRow_dneq (a b : SRow) : bA [.str, .str, .int .i64, .int .i64] .neq a.d b.d = some (.bool (!decide (a = b))) := by
  obtain ⟨a0, a1, a2, a3⟩ := a
  obtain ⟨b0, b1, b2, b3⟩ := b
  simp only [bA, SRow.row, scEqs, scEq, Option.bind_some, Option.map_some, if_true, and_self]
  congr 2
  rw [Bool.eq_iff_iff]
  simp
theorem SRow_deql (a b : SRow) : bA [.str, .str, .int .i64, .int .i64] .eql a.d b.d = some (.bool (decide (a = b))) := by
  obtain ⟨a0, a1, a2, a3⟩ := a
  obtain ⟨b0, b1, b2, b3⟩ := b
  simp only [bA, SRow.row, scEqs, scEq, Option.bind_some, Option.map_some, if_true, and_self]
  congr 2
  rw [Bool.eq_iff_iff]
  simp
theorem SVal_dneq (a b : SVal) : bA [.int .i64, .int .i64] .neq a.d b.d = some (.bool (!decide (a = b))) := by
  obtain ⟨a0, a1⟩ := a
  obtain ⟨b0, b1⟩ := b
  simp only [bA, SVal.row, scEqs, scEq, Option.bind_some, Option.map_some, if_true, and_self]
  congr 2
  rw [Bool.eq_iff_iff]
  simp
theorem SVal_deql (a b : SVal) : bA [.int .i64, .int .i64] .eql a.d b.d = some (.bool (decide (a = b))) := by
  obtain ⟨a0, a1⟩ := a
  obtain ⟨b0, b1⟩ := b
  simp only [bA, SVal.row, scEqs, scEq, Option.bind_some, Option.map_some, if_true, and_self]
  congr 2
  rw [Bool.eq_iff_iff]
  simp
theorem SFault_dneq (a b : SFault) : bA [.int .i64, .str] .neq a.d b.d = some (.bool (!decide (a = b))) := by
  obtain ⟨a0, a1⟩ := a
  obtain ⟨b0, b1⟩ := b
  simp only [bA, SFault.row, scEqs, scEq, Option.bind_some, Option.map_some, if_true, and_self]
  congr 2
  rw [Bool.eq_iff_iff]
  simp
theorem SFault_deql (a b : SFault) : bA [.int .i64, .str] .eql a.d b.d = some (.bool (decide (a = b))) := by
  obtain ⟨a0, a1⟩ := a
  obtain ⟨b0, b1⟩ := b
  simp only [bA, SFault.row, scEqs, scEq, Option.bind_some, Option.map_some, if_true, and_self]
  congr 2
  rw [Bool.eq_iff_iff]
  simp
theorem SAsked_dneq (a b : SAsked) : bA [.int .i64, .str] .neq a.d b.d = some (.bool (!decide (a = b))) := by
  obtain ⟨a0, a1⟩ := a
  obtain ⟨b0, b1⟩ := b
  simp only [bA, SAsked.row, scEqs, scEq, Option.bind_some, Option.map_some, if_true, and_self]
  congr 2
  rw [Bool.eq_iff_iff]
  simp
theorem SAsked_deql (a b : SAsked) : bA [.int .i64, .str] .eql a.d b.d = some (.bool (decide (a = b))) := by
  obtain ⟨a0, a1⟩ := a
  obtain ⟨b0, b1⟩ := b
  simp only [bA, SAsked.row, scEqs, scEq, Option.bind_some, Option.map_some, if_true, and_self]
  congr 2
  rw [Bool.eq_iff_iff]
  simp
theorem SPick_dneq (a b : SPick) : bA [.int .i64, .int .i64, .int .i64, .str] .neq a.d b.d = some (.bool (!decide (a = b))) := by
  obtain ⟨a0, a1, a2, a3⟩ := a
  obtain ⟨b0, b1, b2, b3⟩ := b
  simp only [bA, SPick.row, scEqs, scEq, Option.bind_some, Option.map_some, if_true, and_self]
  congr 2
  rw [Bool.eq_iff_iff]
  simp
theorem SPick_deql (a b : SPick) : bA [.int .i64, .int .i64, .int .i64, .str] .eql a.d b.d = some (.bool (decide (a = b))) := by
  obtain ⟨a0, a1, a2, a3⟩ := a
  obtain ⟨b0, b1, b2, b3⟩ := b
  simp only [bA, SPick.row, scEqs, scEq, Option.bind_some, Option.map_some, if_true, and_self]
  congr 2
  rw [Bool.eq_iff_iff]
  simp
end Go.Ev.Ytmljkoieihaomaa
