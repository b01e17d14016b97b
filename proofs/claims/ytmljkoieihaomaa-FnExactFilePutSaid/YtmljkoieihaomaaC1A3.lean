/- Contracts. -/
import Derived.Test.YtmljkoieihaomaaC1A2
namespace Go.Ev.Ytmljkoieihaomaa
set_option linter.unusedVariables false
set_option linter.unusedSimpArgs false
open Go.Ev
theorem c57_3 (xs : List Int) (hl : szL (fun _ => 0) xs ≤ 1048576) : ∀ i, i ≤ xs.length → ∀ H, Filling H 0 0 xs.length [.int .i64 0] ((xs.take i).map rInt) → ∃ H', J E 57 3 [.list (xs.map rInt), .sl 0 0 xs.length, .int .i64 i] H = some (.sl 0 0 xs.length, H') ∧ Filling H' 0 0 xs.length [.int .i64 0] (xs.map rInt) := by
  have hx := szL_len hl
  refine loop_up (P := fun i => _) ?_ fun i hi ih H hF => ?_
  · intro H hF
    rw [List.take_length] at hF
    refine ⟨H, ?_, hF⟩
    rw [j57_3]; simp
  · rw [j57_3]
    have hlt : ((xs.take i).map rInt).length < xs.length := by simp; omega
    have hti : ((xs.take i).map rInt).length = i := by simp; omega
    have hnx : (xs.take i).map rInt ++ [rInt xs[i]] = (xs.take (i + 1)).map rInt := by rw [List.take_add_one, List.getElem?_eq_getElem hi, List.map_append]; rfl
    rw [Ev.ia_list (n := (i : Int)) (by omega) (by simpa using hi) (by simp [rInt, rStr])]
    simp only [lnL_list, List.length_map, Option.bind_some, bI_lss, asB_bool, Int.ofNat_lt, hi, decide_true, cond_true, ld_el, Int.toNat_natCast, List.getElem_map]
    rw [show part (rInt xs[i]) (0, 1, false) = some (.int .i64 xs[i]) from rfl]; simp only [Option.bind_some]
    rw [hF.ia (esz := 1) (i := (i : Int)) hlt rfl (by omega) rfl]; simp only [Option.bind_some]
    obtain ⟨H2, q, hF2, -, -⟩ := hF.store hlt (v := .int .i64 xs[i]) (t := rInt xs[i]) (RepR.scalars (r := rInt xs[i]) rfl) (FreshB.nil H) rfl (z := 1) rfl rfl
    rw [q]; simp only [Option.bind_some]
    rw [hnx] at hF2
    obtain ⟨H3, k1, k2⟩ := ih H2 hF2
    refine ⟨H3, ?_, k2⟩
    simp only [bI_add, Option.bind_some]
    simp (disch := omega) only [wrap_i64]
    simpa using k1
theorem c57 (xs : List Int) (hl : szL (fun _ => 0) xs ≤ 1048576) : OwnC E 1 57 [.list (xs.map rInt)] (.list (xs.map rInt)) := by
  have hx := szL_len hl
  obtain ⟨H, h1, h2⟩ := c57_3 xs hl 0 (by omega) [some (List.replicate xs.length [.int .i64 0])] (Filling.start [] 0 xs.length [.int .i64 0])
  obtain ⟨B, h3, h4⟩ := h2.done (by simp)
  refine ⟨_, _, _, ?_, h3, h4⟩
  rw [e57]; simp only [lnL_list, List.length_map, Option.bind_some]
  rw [mks_eq (by unfold maxLen; omega) (by unfold maxLen; omega) rfl]
  simpa using h1
theorem c101 (x : SConst) (l : Bool) : run E (exec E) l 101 [x.d] = some x.d := by
  rw [run_ent, e101]
  simp [SConst.row, ia, ld, st, getRow, rowLen, storeRow, part, D.cells, D.isCell, bld, fillC, bsl, fillR, slS, slL, sliceStr, bound, cut0, srcRows, rowsFit, call_pure, call_view, nilCheck, rInt, rStr, rBool, rByte]
theorem c56_3 (xs : List SConst) (hl : szL SConst.sz xs ≤ 1048576) : ∀ i, i ≤ xs.length → ∀ H, Filling H 0 0 xs.length [.int .i64 0, .str [], .int .i64 0, .int .i64 0] ((xs.take i).map SConst.row) → ∃ H', J E 56 3 [.list (xs.map SConst.row), .sl 0 0 xs.length, .int .i64 i] H = some (.sl 0 0 xs.length, H') ∧ Filling H' 0 0 xs.length [.int .i64 0, .str [], .int .i64 0, .int .i64 0] (xs.map SConst.row) := by
  have hx := szL_len hl
  refine loop_up (P := fun i => _) ?_ fun i hi ih H hF => ?_
  · intro H hF
    rw [List.take_length] at hF
    refine ⟨H, ?_, hF⟩
    rw [j56_3]; simp
  · rw [j56_3]
    have hlt : ((xs.take i).map SConst.row).length < xs.length := by simp; omega
    have hti : ((xs.take i).map SConst.row).length = i := by simp; omega
    have hnx : (xs.take i).map SConst.row ++ [SConst.row xs[i]] = (xs.take (i + 1)).map SConst.row := by rw [List.take_add_one, List.getElem?_eq_getElem hi, List.map_append]; rfl
    rw [Ev.ia_list (n := (i : Int)) (by omega) (by simpa using hi) (by simp [rInt, rStr])]
    simp only [lnL_list, List.length_map, Option.bind_some, bI_lss, asB_bool, Int.ofNat_lt, hi, decide_true, cond_true, ld_el, Int.toNat_natCast, List.getElem_map]
    rw [show part xs[i].row (0, 4, true) = some xs[i].d from rfl]; simp only [Option.bind_some]
    simp only [call_pure, optAll_cons, optAll_nil, SConst.readD, Option.bind_some, c101]
    rw [hF.ia (esz := 4) (i := (i : Int)) hlt rfl (by omega) rfl]; simp only [Option.bind_some]
    obtain ⟨H2, q, hF2, -, -⟩ := hF.store hlt (v := xs[i].d) (t := xs[i].row) (RepR.scalars rfl) (FreshB.nil H) rfl (z := 4) rfl rfl
    rw [q]; simp only [Option.bind_some]
    rw [hnx] at hF2
    obtain ⟨H3, k1, k2⟩ := ih H2 hF2
    refine ⟨H3, ?_, k2⟩
    simp only [bI_add, Option.bind_some]
    simp (disch := omega) only [wrap_i64]
    simpa using k1
theorem c56 (xs : List SConst) (hl : szL SConst.sz xs ≤ 1048576) : OwnC E 1 56 [.list (xs.map SConst.row)] (.list (xs.map SConst.row)) := by
  have hx := szL_len hl
  obtain ⟨H, h1, h2⟩ := c56_3 xs hl 0 (by omega) [some (List.replicate xs.length [.int .i64 0, .str [], .int .i64 0, .int .i64 0])] (Filling.start [] 0 xs.length [.int .i64 0, .str [], .int .i64 0, .int .i64 0])
  obtain ⟨B, h3, h4⟩ := h2.done (by simp)
  refine ⟨_, _, _, ?_, h3, h4⟩
  rw [e56]; simp only [lnL_list, List.length_map, Option.bind_some]
  rw [mks_eq (by unfold maxLen; omega) (by unfold maxLen; omega) rfl]
  simpa using h1
theorem c102 (x : SField) (l : Bool) : run E (exec E) l 102 [x.d] = some x.d := by
  rw [run_ent, e102]
  simp [SField.row, ia, ld, st, getRow, rowLen, storeRow, part, D.cells, D.isCell, bld, fillC, bsl, fillR, slS, slL, sliceStr, bound, cut0, srcRows, rowsFit, call_pure, call_view, nilCheck, rInt, rStr, rBool, rByte]
theorem c58_3 (xs : List SField) (hl : szL (fun _ => 0) xs ≤ 1048576) : ∀ i, i ≤ xs.length → ∀ H, Filling H 0 0 xs.length [.int .i64 0, .int .i64 0, .int .i64 0] ((xs.take i).map SField.row) → ∃ H', J E 58 3 [.list (xs.map SField.row), .sl 0 0 xs.length, .int .i64 i] H = some (.sl 0 0 xs.length, H') ∧ Filling H' 0 0 xs.length [.int .i64 0, .int .i64 0, .int .i64 0] (xs.map SField.row) := by
  have hx := szL_len hl
  refine loop_up (P := fun i => _) ?_ fun i hi ih H hF => ?_
  · intro H hF
    rw [List.take_length] at hF
    refine ⟨H, ?_, hF⟩
    rw [j58_3]; simp
  · rw [j58_3]
    have hlt : ((xs.take i).map SField.row).length < xs.length := by simp; omega
    have hti : ((xs.take i).map SField.row).length = i := by simp; omega
    have hnx : (xs.take i).map SField.row ++ [SField.row xs[i]] = (xs.take (i + 1)).map SField.row := by rw [List.take_add_one, List.getElem?_eq_getElem hi, List.map_append]; rfl
    rw [Ev.ia_list (n := (i : Int)) (by omega) (by simpa using hi) (by simp [rInt, rStr])]
    simp only [lnL_list, List.length_map, Option.bind_some, bI_lss, asB_bool, Int.ofNat_lt, hi, decide_true, cond_true, ld_el, Int.toNat_natCast, List.getElem_map]
    rw [show part xs[i].row (0, 3, true) = some xs[i].d from rfl]; simp only [Option.bind_some]
    simp only [call_pure, optAll_cons, optAll_nil, SField.readD, Option.bind_some, c102]
    rw [hF.ia (esz := 3) (i := (i : Int)) hlt rfl (by omega) rfl]; simp only [Option.bind_some]
    obtain ⟨H2, q, hF2, -, -⟩ := hF.store hlt (v := xs[i].d) (t := xs[i].row) (RepR.scalars rfl) (FreshB.nil H) rfl (z := 3) rfl rfl
    rw [q]; simp only [Option.bind_some]
    rw [hnx] at hF2
    obtain ⟨H3, k1, k2⟩ := ih H2 hF2
    refine ⟨H3, ?_, k2⟩
    simp only [bI_add, Option.bind_some]
    simp (disch := omega) only [wrap_i64]
    simpa using k1
theorem c58 (xs : List SField) (hl : szL (fun _ => 0) xs ≤ 1048576) : OwnC E 1 58 [.list (xs.map SField.row)] (.list (xs.map SField.row)) := by
  have hx := szL_len hl
  obtain ⟨H, h1, h2⟩ := c58_3 xs hl 0 (by omega) [some (List.replicate xs.length [.int .i64 0, .int .i64 0, .int .i64 0])] (Filling.start [] 0 xs.length [.int .i64 0, .int .i64 0, .int .i64 0])
  obtain ⟨B, h3, h4⟩ := h2.done (by simp)
  refine ⟨_, _, _, ?_, h3, h4⟩
  rw [e58]; simp only [lnL_list, List.length_map, Option.bind_some]
  rw [mks_eq (by unfold maxLen; omega) (by unfold maxLen; omega) rfl]
  simpa using h1
theorem c159 (x : STrap) (l : Bool) : run E (exec E) l 159 [x.d] = some x.d := by
  rw [run_ent, e159]
  simp [STrap.row, ia, ld, st, getRow, rowLen, storeRow, part, D.cells, D.isCell, bld, fillC, bsl, fillR, slS, slL, sliceStr, bound, cut0, srcRows, rowsFit, call_pure, call_view, nilCheck, rInt, rStr, rBool, rByte]
theorem c140_3 (xs : List STrap) (hl : szL (fun _ => 0) xs ≤ 1048576) : ∀ i, i ≤ xs.length → ∀ H, Filling H 0 0 xs.length [.int .i64 0, .int .i64 0, .int .i64 0, .int .i64 0] ((xs.take i).map STrap.row) → ∃ H', J E 140 3 [.list (xs.map STrap.row), .sl 0 0 xs.length, .int .i64 i] H = some (.sl 0 0 xs.length, H') ∧ Filling H' 0 0 xs.length [.int .i64 0, .int .i64 0, .int .i64 0, .int .i64 0] (xs.map STrap.row) := by
  have hx := szL_len hl
  refine loop_up (P := fun i => _) ?_ fun i hi ih H hF => ?_
  · intro H hF
    rw [List.take_length] at hF
    refine ⟨H, ?_, hF⟩
    rw [j140_3]; simp
  · rw [j140_3]
    have hlt : ((xs.take i).map STrap.row).length < xs.length := by simp; omega
    have hti : ((xs.take i).map STrap.row).length = i := by simp; omega
    have hnx : (xs.take i).map STrap.row ++ [STrap.row xs[i]] = (xs.take (i + 1)).map STrap.row := by rw [List.take_add_one, List.getElem?_eq_getElem hi, List.map_append]; rfl
    rw [Ev.ia_list (n := (i : Int)) (by omega) (by simpa using hi) (by simp [rInt, rStr])]
    simp only [lnL_list, List.length_map, Option.bind_some, bI_lss, asB_bool, Int.ofNat_lt, hi, decide_true, cond_true, ld_el, Int.toNat_natCast, List.getElem_map]
    rw [show part xs[i].row (0, 4, true) = some xs[i].d from rfl]; simp only [Option.bind_some]
    simp only [call_pure, optAll_cons, optAll_nil, STrap.readD, Option.bind_some, c159]
    rw [hF.ia (esz := 4) (i := (i : Int)) hlt rfl (by omega) rfl]; simp only [Option.bind_some]
    obtain ⟨H2, q, hF2, -, -⟩ := hF.store hlt (v := xs[i].d) (t := xs[i].row) (RepR.scalars rfl) (FreshB.nil H) rfl (z := 4) rfl rfl
    rw [q]; simp only [Option.bind_some]
    rw [hnx] at hF2
    obtain ⟨H3, k1, k2⟩ := ih H2 hF2
    refine ⟨H3, ?_, k2⟩
    simp only [bI_add, Option.bind_some]
    simp (disch := omega) only [wrap_i64]
    simpa using k1
theorem c140 (xs : List STrap) (hl : szL (fun _ => 0) xs ≤ 1048576) : OwnC E 1 140 [.list (xs.map STrap.row)] (.list (xs.map STrap.row)) := by
  have hx := szL_len hl
  obtain ⟨H, h1, h2⟩ := c140_3 xs hl 0 (by omega) [some (List.replicate xs.length [.int .i64 0, .int .i64 0, .int .i64 0, .int .i64 0])] (Filling.start [] 0 xs.length [.int .i64 0, .int .i64 0, .int .i64 0, .int .i64 0])
  obtain ⟨B, h3, h4⟩ := h2.done (by simp)
  refine ⟨_, _, _, ?_, h3, h4⟩
  rw [e140]; simp only [lnL_list, List.length_map, Option.bind_some]
  rw [mks_eq (by unfold maxLen; omega) (by unfold maxLen; omega) rfl]
  simpa using h1
theorem c166 (x : SKind) (l : Bool) : run E (exec E) l 166 [x.d] = some x.d := by
  rw [run_ent, e166]
  simp [SKind.row, ia, ld, st, getRow, rowLen, storeRow, part, D.cells, D.isCell, bld, fillC, bsl, fillR, slS, slL, sliceStr, bound, cut0, srcRows, rowsFit, call_pure, call_view, nilCheck, rInt, rStr, rBool, rByte]
theorem c164_3 (xs : List SKind) (hl : szL (fun _ => 0) xs ≤ 1048576) : ∀ i, i ≤ xs.length → ∀ H, Filling H 0 0 xs.length [.int .i64 0, .int .i64 0] ((xs.take i).map SKind.row) → ∃ H', J E 164 3 [.list (xs.map SKind.row), .sl 0 0 xs.length, .int .i64 i] H = some (.sl 0 0 xs.length, H') ∧ Filling H' 0 0 xs.length [.int .i64 0, .int .i64 0] (xs.map SKind.row) := by
  have hx := szL_len hl
  refine loop_up (P := fun i => _) ?_ fun i hi ih H hF => ?_
  · intro H hF
    rw [List.take_length] at hF
    refine ⟨H, ?_, hF⟩
    rw [j164_3]; simp
  · rw [j164_3]
    have hlt : ((xs.take i).map SKind.row).length < xs.length := by simp; omega
    have hti : ((xs.take i).map SKind.row).length = i := by simp; omega
    have hnx : (xs.take i).map SKind.row ++ [SKind.row xs[i]] = (xs.take (i + 1)).map SKind.row := by rw [List.take_add_one, List.getElem?_eq_getElem hi, List.map_append]; rfl
    rw [Ev.ia_list (n := (i : Int)) (by omega) (by simpa using hi) (by simp [rInt, rStr])]
    simp only [lnL_list, List.length_map, Option.bind_some, bI_lss, asB_bool, Int.ofNat_lt, hi, decide_true, cond_true, ld_el, Int.toNat_natCast, List.getElem_map]
    rw [show part xs[i].row (0, 2, true) = some xs[i].d from rfl]; simp only [Option.bind_some]
    simp only [call_pure, optAll_cons, optAll_nil, SKind.readD, Option.bind_some, c166]
    rw [hF.ia (esz := 2) (i := (i : Int)) hlt rfl (by omega) rfl]; simp only [Option.bind_some]
    obtain ⟨H2, q, hF2, -, -⟩ := hF.store hlt (v := xs[i].d) (t := xs[i].row) (RepR.scalars rfl) (FreshB.nil H) rfl (z := 2) rfl rfl
    rw [q]; simp only [Option.bind_some]
    rw [hnx] at hF2
    obtain ⟨H3, k1, k2⟩ := ih H2 hF2
    refine ⟨H3, ?_, k2⟩
    simp only [bI_add, Option.bind_some]
    simp (disch := omega) only [wrap_i64]
    simpa using k1
theorem c164 (xs : List SKind) (hl : szL (fun _ => 0) xs ≤ 1048576) : OwnC E 1 164 [.list (xs.map SKind.row)] (.list (xs.map SKind.row)) := by
  have hx := szL_len hl
  obtain ⟨H, h1, h2⟩ := c164_3 xs hl 0 (by omega) [some (List.replicate xs.length [.int .i64 0, .int .i64 0])] (Filling.start [] 0 xs.length [.int .i64 0, .int .i64 0])
  obtain ⟨B, h3, h4⟩ := h2.done (by simp)
  refine ⟨_, _, _, ?_, h3, h4⟩
  rw [e164]; simp only [lnL_list, List.length_map, Option.bind_some]
  rw [mks_eq (by unfold maxLen; omega) (by unfold maxLen; omega) rfl]
  simpa using h1
theorem c160 (x : SFrame) (h : x.sz ≤ 1048576) : OwnC E 2 160 [x.d] x.d := by
  simp only [SFrame.sz] at h
  unfold OwnC
  rw [e160]
  simp only [D.cells]
  rw [alloc_eq _ _ _ (SFrame.isCell x), alloc_eq _ _ _ rfl, alloc_eq _ _ _ rfl]
  simp only [List.length_nil, List.nil_append, List.cons_append, List.length_cons, Nat.zero_add, fa_ptr, Option.bind_some]
  have C0 := Conv.start x.row [.int .i64 0, .sl0, .sl0] 1
  generalize [some [x.row], some [[.int .i64 0, .sl0, .sl0]], some [[.int .i64 0, .sl0, .sl0]]] = G0 at C0 ⊢
  rw [C0.src, show part x.row (0, 1, false) = some (.int .i64 x.At) from rfl]; simp only [Option.bind_some]
  obtain ⟨G1, q0, C1⟩ := C0.store (v := .int .i64 x.At) (t := [.int .i64 x.At]) (RepR.scalars (r := [.int .i64 x.At]) rfl) (FreshB.nil G0) rfl (k := 0) (z := 1) rfl rfl (by decide)
  rw [q0]; simp only [Option.bind_some]
  rw [C1.src, show part x.row (1, 1, false) = some (.list (x.Locals.map SKind.row)) from rfl]; simp only [Option.bind_some]
  obtain ⟨d1, K1, B1, p1, r1, f1⟩ := (c164 x.Locals (by omega)).call (H0 := G1) (ds := [.list (x.Locals.map SKind.row)]) (by omega) rfl
  rw [p1]; simp only [Option.bind_some]
  have e1 : d1.cells = [d1] := by have := r1.cell rfl; cases d1 <;> first | rfl | (cases this; done)
  obtain ⟨G2, q1, C2⟩ := C1.store (v := d1) (t := [.list (x.Locals.map SKind.row)]) (by rw [e1]; exact RepR.cons (B' := []) (r1.up (by omega)) .nil) (by simpa using f1) rfl (k := 1) (z := 1) rfl rfl (by decide)
  rw [q1]; simp only [Option.bind_some]
  rw [C2.src, show part x.row (2, 1, false) = some (.list (x.Stack.map SKind.row)) from rfl]; simp only [Option.bind_some]
  obtain ⟨d2, K2, B2, p2, r2, f2⟩ := (c164 x.Stack (by omega)).call (H0 := G2) (ds := [.list (x.Stack.map SKind.row)]) (by omega) rfl
  rw [p2]; simp only [Option.bind_some]
  have e2 : d2.cells = [d2] := by have := r2.cell rfl; cases d2 <;> first | rfl | (cases this; done)
  obtain ⟨G3, q2, C3⟩ := C2.store (v := d2) (t := [.list (x.Stack.map SKind.row)]) (by rw [e2]; exact RepR.cons (B' := []) (r2.up (by omega)) .nil) (by simpa using f2) rfl (k := 2) (z := 1) rfl rfl (by decide)
  rw [q2]; simp only [Option.bind_some]
  obtain ⟨p, G, q, r, R⟩ := C3.finish rfl (z := 3) rfl rfl
  rw [p]; simp only [Option.bind_some]; rw [q]; simp only [Option.bind_some]; rw [r]
  exact ⟨_, _, _, rfl, R, C3.2.2.2.2.1⟩
theorem c141_3 (xs : List SFrame) (hl : szL SFrame.sz xs ≤ 1048576) : ∀ i, i ≤ xs.length → ∀ H, Filling H 0 1 xs.length [.int .i64 0, .sl0, .sl0] ((xs.take i).map SFrame.row) → ∃ H', J E 141 3 [.list (xs.map SFrame.row), .sl 0 0 xs.length, .int .i64 i] H = some (.sl 0 0 xs.length, H') ∧ Filling H' 0 1 xs.length [.int .i64 0, .sl0, .sl0] (xs.map SFrame.row) := by
  have hx := szL_len hl
  refine loop_up (P := fun i => _) ?_ fun i hi ih H hF => ?_
  · intro H hF
    rw [List.take_length] at hF
    refine ⟨H, ?_, hF⟩
    rw [j141_3]; simp
  · rw [j141_3]
    have hlt : ((xs.take i).map SFrame.row).length < xs.length := by simp; omega
    have hti : ((xs.take i).map SFrame.row).length = i := by simp; omega
    have hnx : (xs.take i).map SFrame.row ++ [SFrame.row xs[i]] = (xs.take (i + 1)).map SFrame.row := by rw [List.take_add_one, List.getElem?_eq_getElem hi, List.map_append]; rfl
    rw [Ev.ia_list (n := (i : Int)) (by omega) (by simpa using hi) (by simp [rInt, rStr])]
    simp only [lnL_list, List.length_map, Option.bind_some, bI_lss, asB_bool, Int.ofNat_lt, hi, decide_true, cond_true, ld_el, Int.toNat_natCast, List.getElem_map]
    rw [show part xs[i].row (0, 3, true) = some xs[i].d from rfl]; simp only [Option.bind_some]
    obtain ⟨d, H1, B1, p, r, fr⟩ := (c160 xs[i] (szL_get hl hi)).call (H0 := H) (ds := [xs[i].d]) (by omega) (by simp)
    rw [p]; simp only [Option.bind_some]
    obtain ⟨cs, rfl, r9⟩ : ∃ cs, d = .agg cs ∧ RepR true H1 1 cs xs[i].row B1 := by cases r with | agg h => exact ⟨_, rfl, h⟩ | sc h => cases h
    rw [hF.ia (esz := 3) (i := (i : Int)) hlt (fr.keep (by obtain ⟨_, _, h, _⟩ := hF; exact getBlk_lt' h)) (by omega) rfl]; simp only [Option.bind_some]
    obtain ⟨H2, q, hF2, -, -⟩ := hF.store hlt (v := .agg cs) (t := xs[i].row) r9 fr rfl (z := 3) rfl rfl
    rw [q]; simp only [Option.bind_some]
    rw [hnx] at hF2
    obtain ⟨H3, k1, k2⟩ := ih H2 hF2
    refine ⟨H3, ?_, k2⟩
    simp only [bI_add, Option.bind_some]
    simp (disch := omega) only [wrap_i64]
    simpa using k1
theorem c141 (xs : List SFrame) (hl : szL SFrame.sz xs ≤ 1048576) : OwnC E 2 141 [.list (xs.map SFrame.row)] (.list (xs.map SFrame.row)) := by
  have hx := szL_len hl
  obtain ⟨H, h1, h2⟩ := c141_3 xs hl 0 (by omega) [some (List.replicate xs.length [.int .i64 0, .sl0, .sl0])] (Filling.start [] 1 xs.length [.int .i64 0, .sl0, .sl0])
  obtain ⟨B, h3, h4⟩ := h2.done (by simp)
  refine ⟨_, _, _, ?_, h3, h4⟩
  rw [e141]; simp only [lnL_list, List.length_map, Option.bind_some]
  rw [mks_eq (by unfold maxLen; omega) (by unfold maxLen; omega) rfl]
  simpa using h1
theorem c103 (x : SMethod) (h : x.sz ≤ 1048576) : OwnC E 3 103 [x.d] x.d := by
  simp only [SMethod.sz] at h
  unfold OwnC
  rw [e103]
  simp only [D.cells]
  rw [alloc_eq _ _ _ (SMethod.isCell x), alloc_eq _ _ _ rfl, alloc_eq _ _ _ rfl]
  simp only [List.length_nil, List.nil_append, List.cons_append, List.length_cons, Nat.zero_add, fa_ptr, Option.bind_some]
  have C0 := Conv.start x.row [.int .i64 0, .int .i64 0, .int .i64 0, .int .i64 0, .int .i64 0, .str [], .sl0, .sl0] 2
  generalize [some [x.row], some [[.int .i64 0, .int .i64 0, .int .i64 0, .int .i64 0, .int .i64 0, .str [], .sl0, .sl0]], some [[.int .i64 0, .int .i64 0, .int .i64 0, .int .i64 0, .int .i64 0, .str [], .sl0, .sl0]]] = G0 at C0 ⊢
  rw [C0.src, show part x.row (0, 1, false) = some (.int .i64 x.Flags) from rfl]; simp only [Option.bind_some]
  obtain ⟨G1, q0, C1⟩ := C0.store (v := .int .i64 x.Flags) (t := [.int .i64 x.Flags]) (RepR.scalars (r := [.int .i64 x.Flags]) rfl) (FreshB.nil G0) rfl (k := 0) (z := 1) rfl rfl (by decide)
  rw [q0]; simp only [Option.bind_some]
  rw [C1.src, show part x.row (1, 1, false) = some (.int .i64 x.Name) from rfl]; simp only [Option.bind_some]
  obtain ⟨G2, q1, C2⟩ := C1.store (v := .int .i64 x.Name) (t := [.int .i64 x.Name]) (RepR.scalars (r := [.int .i64 x.Name]) rfl) (FreshB.nil G1) rfl (k := 1) (z := 1) rfl rfl (by decide)
  rw [q1]; simp only [Option.bind_some]
  rw [C2.src, show part x.row (2, 1, false) = some (.int .i64 x.Desc) from rfl]; simp only [Option.bind_some]
  obtain ⟨G3, q2, C3⟩ := C2.store (v := .int .i64 x.Desc) (t := [.int .i64 x.Desc]) (RepR.scalars (r := [.int .i64 x.Desc]) rfl) (FreshB.nil G2) rfl (k := 2) (z := 1) rfl rfl (by decide)
  rw [q2]; simp only [Option.bind_some]
  rw [C3.src, show part x.row (3, 1, false) = some (.int .i64 x.Deep) from rfl]; simp only [Option.bind_some]
  obtain ⟨G4, q3, C4⟩ := C3.store (v := .int .i64 x.Deep) (t := [.int .i64 x.Deep]) (RepR.scalars (r := [.int .i64 x.Deep]) rfl) (FreshB.nil G3) rfl (k := 3) (z := 1) rfl rfl (by decide)
  rw [q3]; simp only [Option.bind_some]
  rw [C4.src, show part x.row (4, 1, false) = some (.int .i64 x.Locals) from rfl]; simp only [Option.bind_some]
  obtain ⟨G5, q4, C5⟩ := C4.store (v := .int .i64 x.Locals) (t := [.int .i64 x.Locals]) (RepR.scalars (r := [.int .i64 x.Locals]) rfl) (FreshB.nil G4) rfl (k := 4) (z := 1) rfl rfl (by decide)
  rw [q4]; simp only [Option.bind_some]
  rw [C5.src, show part x.row (5, 1, false) = some (.str x.Code) from rfl]; simp only [Option.bind_some]
  obtain ⟨G6, q5, C6⟩ := C5.store (v := .str x.Code) (t := [.str x.Code]) (RepR.scalars (r := [.str x.Code]) rfl) (FreshB.nil G5) rfl (k := 5) (z := 1) rfl rfl (by decide)
  rw [q5]; simp only [Option.bind_some]
  rw [C6.src, show part x.row (6, 1, false) = some (.list (x.Traps.map STrap.row)) from rfl]; simp only [Option.bind_some]
  obtain ⟨d6, K6, B6, p6, r6, f6⟩ := (c140 x.Traps (by omega)).call (H0 := G6) (ds := [.list (x.Traps.map STrap.row)]) (by omega) rfl
  rw [p6]; simp only [Option.bind_some]
  have e6 : d6.cells = [d6] := by have := r6.cell rfl; cases d6 <;> first | rfl | (cases this; done)
  obtain ⟨G7, q6, C7⟩ := C6.store (v := d6) (t := [.list (x.Traps.map STrap.row)]) (by rw [e6]; exact RepR.cons (B' := []) (r6.up (by omega)) .nil) (by simpa using f6) rfl (k := 6) (z := 1) rfl rfl (by decide)
  rw [q6]; simp only [Option.bind_some]
  rw [C7.src, show part x.row (7, 1, false) = some (.list (x.Frames.map SFrame.row)) from rfl]; simp only [Option.bind_some]
  obtain ⟨d7, K7, B7, p7, r7, f7⟩ := (c141 x.Frames (by omega)).call (H0 := G7) (ds := [.list (x.Frames.map SFrame.row)]) (by omega) rfl
  rw [p7]; simp only [Option.bind_some]
  have e7 : d7.cells = [d7] := by have := r7.cell rfl; cases d7 <;> first | rfl | (cases this; done)
  obtain ⟨G8, q7, C8⟩ := C7.store (v := d7) (t := [.list (x.Frames.map SFrame.row)]) (by rw [e7]; exact RepR.cons (B' := []) (r7.up (by omega)) .nil) (by simpa using f7) rfl (k := 7) (z := 1) rfl rfl (by decide)
  rw [q7]; simp only [Option.bind_some]
  obtain ⟨p, G, q, r, R⟩ := C8.finish rfl (z := 8) rfl rfl
  rw [p]; simp only [Option.bind_some]; rw [q]; simp only [Option.bind_some]; rw [r]
  exact ⟨_, _, _, rfl, R, C8.2.2.2.2.1⟩
theorem c59_3 (xs : List SMethod) (hl : szL SMethod.sz xs ≤ 1048576) : ∀ i, i ≤ xs.length → ∀ H, Filling H 0 2 xs.length [.int .i64 0, .int .i64 0, .int .i64 0, .int .i64 0, .int .i64 0, .str [], .sl0, .sl0] ((xs.take i).map SMethod.row) → ∃ H', J E 59 3 [.list (xs.map SMethod.row), .sl 0 0 xs.length, .int .i64 i] H = some (.sl 0 0 xs.length, H') ∧ Filling H' 0 2 xs.length [.int .i64 0, .int .i64 0, .int .i64 0, .int .i64 0, .int .i64 0, .str [], .sl0, .sl0] (xs.map SMethod.row) := by
  have hx := szL_len hl
  refine loop_up (P := fun i => _) ?_ fun i hi ih H hF => ?_
  · intro H hF
    rw [List.take_length] at hF
    refine ⟨H, ?_, hF⟩
    rw [j59_3]; simp
  · rw [j59_3]
    have hlt : ((xs.take i).map SMethod.row).length < xs.length := by simp; omega
    have hti : ((xs.take i).map SMethod.row).length = i := by simp; omega
    have hnx : (xs.take i).map SMethod.row ++ [SMethod.row xs[i]] = (xs.take (i + 1)).map SMethod.row := by rw [List.take_add_one, List.getElem?_eq_getElem hi, List.map_append]; rfl
    rw [Ev.ia_list (n := (i : Int)) (by omega) (by simpa using hi) (by simp [rInt, rStr])]
    simp only [lnL_list, List.length_map, Option.bind_some, bI_lss, asB_bool, Int.ofNat_lt, hi, decide_true, cond_true, ld_el, Int.toNat_natCast, List.getElem_map]
    rw [show part xs[i].row (0, 8, true) = some xs[i].d from rfl]; simp only [Option.bind_some]
    obtain ⟨d, H1, B1, p, r, fr⟩ := (c103 xs[i] (szL_get hl hi)).call (H0 := H) (ds := [xs[i].d]) (by omega) (by simp)
    rw [p]; simp only [Option.bind_some]
    obtain ⟨cs, rfl, r9⟩ : ∃ cs, d = .agg cs ∧ RepR true H1 2 cs xs[i].row B1 := by cases r with | agg h => exact ⟨_, rfl, h⟩ | sc h => cases h
    rw [hF.ia (esz := 8) (i := (i : Int)) hlt (fr.keep (by obtain ⟨_, _, h, _⟩ := hF; exact getBlk_lt' h)) (by omega) rfl]; simp only [Option.bind_some]
    obtain ⟨H2, q, hF2, -, -⟩ := hF.store hlt (v := .agg cs) (t := xs[i].row) r9 fr rfl (z := 8) rfl rfl
    rw [q]; simp only [Option.bind_some]
    rw [hnx] at hF2
    obtain ⟨H3, k1, k2⟩ := ih H2 hF2
    refine ⟨H3, ?_, k2⟩
    simp only [bI_add, Option.bind_some]
    simp (disch := omega) only [wrap_i64]
    simpa using k1
theorem c59 (xs : List SMethod) (hl : szL SMethod.sz xs ≤ 1048576) : OwnC E 3 59 [.list (xs.map SMethod.row)] (.list (xs.map SMethod.row)) := by
  have hx := szL_len hl
  obtain ⟨H, h1, h2⟩ := c59_3 xs hl 0 (by omega) [some (List.replicate xs.length [.int .i64 0, .int .i64 0, .int .i64 0, .int .i64 0, .int .i64 0, .str [], .sl0, .sl0])] (Filling.start [] 2 xs.length [.int .i64 0, .int .i64 0, .int .i64 0, .int .i64 0, .int .i64 0, .str [], .sl0, .sl0])
  obtain ⟨B, h3, h4⟩ := h2.done (by simp)
  refine ⟨_, _, _, ?_, h3, h4⟩
  rw [e59]; simp only [lnL_list, List.length_map, Option.bind_some]
  rw [mks_eq (by unfold maxLen; omega) (by unfold maxLen; omega) rfl]
  simpa using h1
theorem c22 (x : SClass) (h : x.sz ≤ 1048576) : OwnC E 4 22 [x.d] x.d := by
  simp only [SClass.sz] at h
  unfold OwnC
  rw [e22]
  simp only [D.cells]
  rw [alloc_eq _ _ _ (SClass.isCell x), alloc_eq _ _ _ rfl, alloc_eq _ _ _ rfl]
  simp only [List.length_nil, List.nil_append, List.cons_append, List.length_cons, Nat.zero_add, fa_ptr, Option.bind_some]
  have C0 := Conv.start x.row [.sl0, .int .i64 0, .int .i64 0, .int .i64 0, .sl0, .sl0, .sl0] 3
  generalize [some [x.row], some [[.sl0, .int .i64 0, .int .i64 0, .int .i64 0, .sl0, .sl0, .sl0]], some [[.sl0, .int .i64 0, .int .i64 0, .int .i64 0, .sl0, .sl0, .sl0]]] = G0 at C0 ⊢
  rw [C0.src, show part x.row (0, 1, false) = some (.list (x.Pool.map SConst.row)) from rfl]; simp only [Option.bind_some]
  obtain ⟨d0, K0, B0, p0, r0, f0⟩ := (c56 x.Pool (by omega)).call (H0 := G0) (ds := [.list (x.Pool.map SConst.row)]) (by omega) rfl
  rw [p0]; simp only [Option.bind_some]
  have e0 : d0.cells = [d0] := by have := r0.cell rfl; cases d0 <;> first | rfl | (cases this; done)
  obtain ⟨G1, q0, C1⟩ := C0.store (v := d0) (t := [.list (x.Pool.map SConst.row)]) (by rw [e0]; exact RepR.cons (B' := []) (r0.up (by omega)) .nil) (by simpa using f0) rfl (k := 0) (z := 1) rfl rfl (by decide)
  rw [q0]; simp only [Option.bind_some]
  rw [C1.src, show part x.row (1, 1, false) = some (.int .i64 x.Flags) from rfl]; simp only [Option.bind_some]
  obtain ⟨G2, q1, C2⟩ := C1.store (v := .int .i64 x.Flags) (t := [.int .i64 x.Flags]) (RepR.scalars (r := [.int .i64 x.Flags]) rfl) (FreshB.nil G1) rfl (k := 1) (z := 1) rfl rfl (by decide)
  rw [q1]; simp only [Option.bind_some]
  rw [C2.src, show part x.row (2, 1, false) = some (.int .i64 x.Name) from rfl]; simp only [Option.bind_some]
  obtain ⟨G3, q2, C3⟩ := C2.store (v := .int .i64 x.Name) (t := [.int .i64 x.Name]) (RepR.scalars (r := [.int .i64 x.Name]) rfl) (FreshB.nil G2) rfl (k := 2) (z := 1) rfl rfl (by decide)
  rw [q2]; simp only [Option.bind_some]
  rw [C3.src, show part x.row (3, 1, false) = some (.int .i64 x.Super) from rfl]; simp only [Option.bind_some]
  obtain ⟨G4, q3, C4⟩ := C3.store (v := .int .i64 x.Super) (t := [.int .i64 x.Super]) (RepR.scalars (r := [.int .i64 x.Super]) rfl) (FreshB.nil G3) rfl (k := 3) (z := 1) rfl rfl (by decide)
  rw [q3]; simp only [Option.bind_some]
  rw [C4.src, show part x.row (4, 1, false) = some (.list (x.Faces.map rInt)) from rfl]; simp only [Option.bind_some]
  obtain ⟨d4, K4, B4, p4, r4, f4⟩ := (c57 x.Faces (by omega)).call (H0 := G4) (ds := [.list (x.Faces.map rInt)]) (by omega) rfl
  rw [p4]; simp only [Option.bind_some]
  have e4 : d4.cells = [d4] := by have := r4.cell rfl; cases d4 <;> first | rfl | (cases this; done)
  obtain ⟨G5, q4, C5⟩ := C4.store (v := d4) (t := [.list (x.Faces.map rInt)]) (by rw [e4]; exact RepR.cons (B' := []) (r4.up (by omega)) .nil) (by simpa using f4) rfl (k := 4) (z := 1) rfl rfl (by decide)
  rw [q4]; simp only [Option.bind_some]
  rw [C5.src, show part x.row (5, 1, false) = some (.list (x.Fields.map SField.row)) from rfl]; simp only [Option.bind_some]
  obtain ⟨d5, K5, B5, p5, r5, f5⟩ := (c58 x.Fields (by omega)).call (H0 := G5) (ds := [.list (x.Fields.map SField.row)]) (by omega) rfl
  rw [p5]; simp only [Option.bind_some]
  have e5 : d5.cells = [d5] := by have := r5.cell rfl; cases d5 <;> first | rfl | (cases this; done)
  obtain ⟨G6, q5, C6⟩ := C5.store (v := d5) (t := [.list (x.Fields.map SField.row)]) (by rw [e5]; exact RepR.cons (B' := []) (r5.up (by omega)) .nil) (by simpa using f5) rfl (k := 5) (z := 1) rfl rfl (by decide)
  rw [q5]; simp only [Option.bind_some]
  rw [C6.src, show part x.row (6, 1, false) = some (.list (x.Methods.map SMethod.row)) from rfl]; simp only [Option.bind_some]
  obtain ⟨d6, K6, B6, p6, r6, f6⟩ := (c59 x.Methods (by omega)).call (H0 := G6) (ds := [.list (x.Methods.map SMethod.row)]) (by omega) rfl
  rw [p6]; simp only [Option.bind_some]
  have e6 : d6.cells = [d6] := by have := r6.cell rfl; cases d6 <;> first | rfl | (cases this; done)
  obtain ⟨G7, q6, C7⟩ := C6.store (v := d6) (t := [.list (x.Methods.map SMethod.row)]) (by rw [e6]; exact RepR.cons (B' := []) (r6.up (by omega)) .nil) (by simpa using f6) rfl (k := 6) (z := 1) rfl rfl (by decide)
  rw [q6]; simp only [Option.bind_some]
  obtain ⟨p, G, q, r, R⟩ := C7.finish rfl (z := 7) rfl rfl
  rw [p]; simp only [Option.bind_some]; rw [q]; simp only [Option.bind_some]; rw [r]
  exact ⟨_, _, _, rfl, R, C7.2.2.2.2.1⟩
end Go.Ev.Ytmljkoieihaomaa
