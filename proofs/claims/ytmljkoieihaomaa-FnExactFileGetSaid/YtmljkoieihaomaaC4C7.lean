/- Contracts. -/
import Derived.Test.YtmljkoieihaomaaC4C6
namespace Go.Ev.Ytmljkoieihaomaa
set_option linter.unusedVariables false
set_option linter.unusedSimpArgs false
open Go.Ev
/-! Writing a file: both ways. -/
theorem call_viewS {E : Env} {g : FuncId} {s : List UInt8} {H : Heap} {t : D} (h : run E (exec E) true g [.str s] = some t) : callFn E (exec E) .view g [.str s] H = some (t, H) := by
  rw [call_view]
  simp only [optAll_cons, optAll_nil, readT_str, Option.bind_some, h, List.foldl_cons, List.foldl_nil]
  rfl
theorem filePut_none {c : SClass} (h : fileGet (pClass pTwo isAbs c) ≠ some c) : filePut c = [] := if_neg h
theorem c15 (s : List UInt8) : run E (exec E) true 15 [.str s] = some (fileRes (fileGet s)) := by
  rw [run_ent, e15, alloc_eq _ _ _ rfl, call_viewS (c33 _ true)]
  simp only [fileRes, Option.bind_some, extract_tup, List.getElem?_cons_zero, List.getElem?_cons_succ]
  rw [put_loc (z := 7) _ [.sl0, .int .i64 0, .int .i64 0, .int .i64 0, .sl0, .sl0, .sl0] _ rfl rfl rfl]
  generalize (fileGet s).getD {} = c
  simp only [Option.bind_some]
  rw [show ld true 7 (([] : Heap) ++ [some [c.row]]) (.ptr ([] : Heap).length 0 0) = some c.d from rfl]
  simp [SClass.readD]
/-! How long a class is when it is written. -/
theorem flat_le {α : Type} {p : α → List UInt8} {f : α → Nat} (h : ∀ x, (p x).length ≤ 64 * (1 + f x)) : ∀ l : List α, (l.flatMap p).length ≤ 64 * szL f l
  | [] => by simp
  | x :: l => by
    have h1 := h x
    have h2 := flat_le h l
    rw [List.flatMap_cons, List.length_append]
    simp only [szL, List.map_cons, List.sum_cons, List.length_cons] at h2 ⊢
    omega
section
variable {w : Int → List UInt8} {ab : Int → Bool} (hw : ∀ n, (w n).length = 2)
include hw
theorem pKind_le (x : SKind) : (pKind w x).length ≤ 64 * (1 + 0) := by unfold pKind; split <;> simp [pOne, hw]
theorem pKinds_le (l : List SKind) : (pKinds w l).length ≤ 1 + 64 * szL (fun _ => 0) l := by
  have := flat_le (pKind_le hw) l
  simp only [pKinds, List.length_append, pOne_len]; omega
theorem pConst_le (x : SConst) : (pConst w x).length ≤ 64 * (1 + x.sz) := by
  unfold pConst SConst.sz; split
  · simp [pOne]; omega
  · split <;> simp [pOne, hw] <;> omega
theorem pTrap_le (x : STrap) : (pTrap w x).length ≤ 64 * (1 + 0) := by simp [pTrap, hw]
theorem pField_le (x : SField) : (pField w x).length ≤ 64 * (1 + 0) := by simp [pField, hw, pOne]
theorem pFrame_le (x : SFrame) : (pFrame w x).length ≤ 64 * (1 + x.sz) := by
  have h1 := pKinds_le hw x.Locals
  have h2 := pKinds_le hw x.Stack
  simp only [pFrame, SFrame.sz, List.length_append, hw]; omega
theorem pMethod_le (x : SMethod) : (pMethod w ab x).length ≤ 64 * (1 + x.sz) := by
  have h1 := flat_le (pTrap_le hw) x.Traps
  have h2 := flat_le (pFrame_le hw) x.Frames
  unfold pMethod; split
  · simp [pOne, hw]; omega
  · simp only [SMethod.sz, List.length_append, hw, pOne_len]; omega
theorem pClass_le (c : SClass) : (pClass w ab c).length ≤ 64 * (1 + c.sz) := by
  have h1 := flat_le (pConst_le hw) c.Pool
  have h2 := flat_le (p := w) (f := fun _ => 0) (fun n => by rw [hw]; omega) c.Faces
  have h3 := flat_le (pField_le hw) c.Fields
  have h4 := flat_le (pMethod_le (ab := ab) hw) c.Methods
  simp only [pClass, SClass.sz, List.length_append, hw, pOne_len, stow, List.length_cons, List.length_nil]; omega
end

end Go.Ev.Ytmljkoieihaomaa
