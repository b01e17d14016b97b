/- Contracts. -/
import Derived.Test.YtmljkoieihaomaaC4C6
namespace Go.Ev.Ytmljkoieihaomaa
set_option linter.unusedVariables false
set_option linter.unusedSimpArgs false
open Go.Ev
/-! Writing a file: both ways. -/
theorem call_viewS {E : Env} {g : FuncId} {s : List UInt8} {H : Heap} {t : D} (h : run E (exec E) true g [.str s] = some t) : callFn E (exec E) .view g [.str s] H = some (t, H) := by
  rw [call_view]
  simp only [optAll_cons, optAll_nil, readT_str, Option.bind_some, h, List.foldl_cons, List.foldl_nil]
  rfl
theorem filePut_none {c : SClass} (h : fileGet (pClass pTwo isAbs c) ≠ some c) : filePut c = [] := if_neg h
theorem c23 (c : SClass) (w : c.wf) (hM : (pClass pTwo isAbs c).length ≤ 4611686018427387904) : run E (exec E) false 23 [c.d] = some (.str (filePut c)) := by
  have l0 : ∀ K : Heap, ld true 7 (some [c.row] :: K) (.ptr 0 0 0) = some c.d := fun K => rfl
  rw [run_ent, e23, alloc_eq _ _ _ rfl]
  rw [show ([] : Heap) ++ [some [D.cells c.d]] = [some [c.row]] from rfl, show ([] : Heap).length = 0 from rfl]
  simp only [l0, Option.bind_some]
  rw [pure_call (ts := [c.d]) (by simp [SClass.readD]) (c60 c w)]
  simp only [Option.bind_some, unOp_not, asB_bool]
  cases hs : smC c with
  | false =>
    have : filePut c = [] := filePut_none fun h => by rw [smC_of (fileGet_wf h).2] at hs; cases hs
    simp [this]
  | true =>
    simp only [Bool.not_true, cond_false, l0, Option.bind_some]
    rw [pure_call (ts := [c.d]) (by simp [SClass.readD]) (c61 c w hM)]
    simp only [Option.bind_some]
    rw [pure_call (ts := [.str (pClass pTwo isAbs c)]) (by simp) (p16 _)]
    simp only [fileRes, Option.bind_some, extract_tup, List.getElem?_cons_zero, List.getElem?_cons_succ]
    rw [alloc_eq _ _ _ rfl]
    cases hg : fileGet (pClass pTwo isAbs c) with
    | none =>
      have : filePut c = [] := filePut_none (by rw [hg]; intro h; cases h)
      rw [put_loc (z := 7) _ [.sl0, .int .i64 0, .int .i64 0, .int .i64 0, .sl0, .sl0, .sl0] _ rfl rfl rfl]
      simp [this]
    | some b =>
      simp only [Option.getD_some, Option.isSome_some, Bool.not_true]
      rw [put_loc (z := 7) _ [.sl0, .int .i64 0, .int .i64 0, .int .i64 0, .sl0, .sl0, .sl0] b.row rfl rfl rfl]
      simp only [Option.bind_some, unOp_not, Bool.not_true, asB_bool, cond_false]
      have l1 : ld true 7 ([some [c.row]] ++ [some [b.row]]) (.ptr 0 0 0) = some c.d := rfl
      have l2 : ld true 7 ([some [c.row]] ++ [some [b.row]]) (.ptr ([some [c.row]] : Heap).length 0 0) = some b.d := rfl
      simp only [l1, l2, Option.bind_some]
      rw [pure_call (ts := [c.d, b.d]) (by simp [SClass.readD]) (c62 c b w)]
      simp only [Option.bind_some, unOp_not, asB_bool]
      by_cases e : c = b
      · subst e
        simp [filePut, hg]
      · have : filePut c = [] := filePut_none (by rw [hg]; intro h; cases h; exact e rfl)
        simp [e, this]
theorem c21 (c : SClass) (w : c.wf) (hM : (pClass pTwo' isAbs' c).length ≤ 4611686018427387904) : run E (exec E) false 21 [c.d] = some (.str (filePut c)) := by
  have l0 : ∀ K : Heap, ld true 7 (some [c.row] :: K) (.ptr 0 0 0) = some c.d := fun K => rfl
  have hn : fileGet (pClass pTwo' isAbs' c) ≠ some c → filePut c = [] := fun h => by rw [← filePut_of back2_pTwo', if_neg h]
  rw [run_ent, e21, alloc_eq _ _ _ rfl]
  rw [show ([] : Heap) ++ [some [D.cells c.d]] = [some [c.row]] from rfl, show ([] : Heap).length = 0 from rfl]
  simp only [l0, Option.bind_some]
  rw [pure_call (ts := [c.d]) (by simp [SClass.readD]) (c53 c)]
  simp only [Option.bind_some, unOp_not, asB_bool]
  cases hs : (decide (c.Pool.length ≤ 60) && (decide (c.Faces.length ≤ 3) && (decide (c.Fields.length ≤ 5) && decide (c.Methods.length ≤ 6)))) with
  | false =>
    have : filePut c = [] := filePut_none fun h => by
      obtain ⟨h1, h2, h3, h4, -⟩ := (fileGet_wf h).2
      simp [h1, h2, h3, h4] at hs
    simp [this]
  | true =>
    simp only [Bool.not_true, cond_false, l0, Option.bind_some]
    rw [pure_call (ts := [c.d]) (by simp [SClass.readD]) (c54 c w hM)]
    simp only [Option.bind_some]
    rw [call_viewS (c33 _ true)]
    simp only [fileRes, Option.bind_some, extract_tup, List.getElem?_cons_zero, List.getElem?_cons_succ]
    rw [alloc_eq _ _ _ rfl]
    cases hg : fileGet (pClass pTwo' isAbs' c) with
    | none =>
      have := hn (by rw [hg]; intro h; cases h)
      rw [put_loc (z := 7) _ [.sl0, .int .i64 0, .int .i64 0, .int .i64 0, .sl0, .sl0, .sl0] _ rfl rfl rfl]
      simp [this]
    | some b =>
      simp only [Option.getD_some, Option.isSome_some, Bool.not_true]
      rw [put_loc (z := 7) _ [.sl0, .int .i64 0, .int .i64 0, .int .i64 0, .sl0, .sl0, .sl0] b.row rfl rfl rfl]
      simp only [Option.bind_some, unOp_not, Bool.not_true, asB_bool, cond_false]
      have l1 : ld true 7 ([some [c.row]] ++ [some [b.row]]) (.ptr 0 0 0) = some c.d := rfl
      have l2 : ld true 7 ([some [c.row]] ++ [some [b.row]]) (.ptr ([some [c.row]] : Heap).length 0 0) = some b.d := rfl
      simp only [l1, l2, Option.bind_some]
      rw [pure_call (ts := [b.d, c.d]) (by simp [SClass.readD]) (c55 b c (fileGet_wf hg).1)]
      simp only [Option.bind_some, unOp_not, asB_bool]
      by_cases e : c = b
      · subst e
        have : filePut c = pClass pTwo' isAbs' c := by rw [← filePut_of back2_pTwo', if_pos hg]
        simp [this]
      · have := hn (by rw [hg]; intro h; cases h; exact e rfl)
        simp [show ¬ b = c from fun h => e h.symm, this]
theorem flat_le {α : Type} {p : α → List UInt8} {f : α → Nat} (h : ∀ x, (p x).length ≤ 64 * (1 + f x)) : ∀ l : List α, (l.flatMap p).length ≤ 64 * szL f l
  | [] => by simp
  | x :: l => by
    have h1 := h x
    have h2 := flat_le h l
    rw [List.flatMap_cons, List.length_append]
    simp only [szL, List.map_cons, List.sum_cons, List.length_cons] at h2 ⊢
    omega
section
variable {w : Int → List UInt8} {ab : Int → Bool} (hw : ∀ n, (w n).length = 2)
include hw
theorem pKind_le (x : SKind) : (pKind w x).length ≤ 64 * (1 + 0) := by unfold pKind; split <;> simp [pOne, hw]
theorem pKinds_le (l : List SKind) : (pKinds w l).length ≤ 1 + 64 * szL (fun _ => 0) l := by
  have := flat_le (pKind_le hw) l
  simp only [pKinds, List.length_append, pOne_len]; omega
theorem pConst_le (x : SConst) : (pConst w x).length ≤ 64 * (1 + x.sz) := by
  unfold pConst SConst.sz; split
  · simp [pOne]; omega
  · split <;> simp [pOne, hw] <;> omega
theorem pTrap_le (x : STrap) : (pTrap w x).length ≤ 64 * (1 + 0) := by simp [pTrap, hw]
theorem pField_le (x : SField) : (pField w x).length ≤ 64 * (1 + 0) := by simp [pField, hw, pOne]
theorem pFrame_le (x : SFrame) : (pFrame w x).length ≤ 64 * (1 + x.sz) := by
  have h1 := pKinds_le hw x.Locals
  have h2 := pKinds_le hw x.Stack
  simp only [pFrame, SFrame.sz, List.length_append, hw]; omega
theorem pMethod_le (x : SMethod) : (pMethod w ab x).length ≤ 64 * (1 + x.sz) := by
  have h1 := flat_le (pTrap_le hw) x.Traps
  have h2 := flat_le (pFrame_le hw) x.Frames
  unfold pMethod; split
  · simp [pOne, hw]; omega
  · simp only [SMethod.sz, List.length_append, hw, pOne_len]; omega
theorem pClass_le (c : SClass) : (pClass w ab c).length ≤ 64 * (1 + c.sz) := by
  have h1 := flat_le (pConst_le hw) c.Pool
  have h2 := flat_le (p := w) (f := fun _ => 0) (fun n => by rw [hw]; omega) c.Faces
  have h3 := flat_le (pField_le hw) c.Fields
  have h4 := flat_le (pMethod_le (ab := ab) hw) c.Methods
  simp only [pClass, SClass.sz, List.length_append, hw, pOne_len, stow, List.length_cons, List.length_nil]; omega
end

end Go.Ev.Ytmljkoieihaomaa
