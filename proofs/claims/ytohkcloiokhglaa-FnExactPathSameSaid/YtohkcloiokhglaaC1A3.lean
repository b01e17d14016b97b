/- Contracts. -/
import Derived.Test.YtohkcloiokhglaaC1A2
namespace Go.Ev.Ytohkcloiokhglaa
set_option linter.unusedVariables false
set_option linter.unusedSimpArgs false
open Go.Ev
theorem c91 (x : SConst) (l : Bool) : run E (exec E) l 91 [x.d] = some x.d := by
  rw [run_ent, e91]
  simp [SConst.row, ia, ld, st, getRow, rowLen, storeRow, part, D.cells, D.isCell, bld, fillC, bsl, fillR, slS, slL, sliceStr, bound, cut0, srcRows, rowsFit, call_pure, call_view, nilCheck, rInt, rStr, rBool, rByte]
theorem c54_3 (xs : List SConst) (hl : szL SConst.sz xs ≤ 1048576) : ∀ i, i ≤ xs.length → ∀ H, Filling H 0 0 xs.length [.int .i64 0, .str [], .int .i64 0, .int .i64 0] ((xs.take i).map SConst.row) → ∃ H', J E 54 3 [.list (xs.map SConst.row), .sl 0 0 xs.length, .int .i64 i] H = some (.sl 0 0 xs.length, H') ∧ Filling H' 0 0 xs.length [.int .i64 0, .str [], .int .i64 0, .int .i64 0] (xs.map SConst.row) := by
  have hx := szL_len hl
  refine loop_up (P := fun i => _) ?_ fun i hi ih H hF => ?_
  · intro H hF
    rw [List.take_length] at hF
    refine ⟨H, ?_, hF⟩
    rw [j54_3]; simp
  · rw [j54_3]
    have hlt : ((xs.take i).map SConst.row).length < xs.length := by simp; omega
    have hti : ((xs.take i).map SConst.row).length = i := by simp; omega
    have hnx : (xs.take i).map SConst.row ++ [SConst.row xs[i]] = (xs.take (i + 1)).map SConst.row := by rw [List.take_add_one, List.getElem?_eq_getElem hi, List.map_append]; rfl
    rw [Ev.ia_list (n := (i : Int)) (by omega) (by simpa using hi) (by simp [rInt, rStr])]
    simp only [lnL_list, List.length_map, Option.bind_some, bI_lss, asB_bool, Int.ofNat_lt, hi, decide_true, cond_true, ld_el, Int.toNat_natCast, List.getElem_map]
    rw [show part xs[i].row (0, 4, true) = some xs[i].d from rfl]; simp only [Option.bind_some]
    simp only [call_pure, optAll_cons, optAll_nil, SConst.readD, Option.bind_some, c91]
    rw [hF.ia (esz := 4) (i := (i : Int)) hlt rfl (by omega) rfl]; simp only [Option.bind_some]
    obtain ⟨H2, q, hF2, -, -⟩ := hF.store hlt (v := xs[i].d) (t := xs[i].row) (RepR.scalars rfl) (FreshB.nil H) rfl (z := 4) rfl rfl
    rw [q]; simp only [Option.bind_some]
    rw [hnx] at hF2
    obtain ⟨H3, k1, k2⟩ := ih H2 hF2
    refine ⟨H3, ?_, k2⟩
    simp only [bI_add, Option.bind_some]
    simp (disch := omega) only [wrap_i64]
    simpa using k1
theorem c54 (xs : List SConst) (hl : szL SConst.sz xs ≤ 1048576) : OwnC E 1 54 [.list (xs.map SConst.row)] (.list (xs.map SConst.row)) := by
  have hx := szL_len hl
  obtain ⟨H, h1, h2⟩ := c54_3 xs hl 0 (by omega) [some (List.replicate xs.length [.int .i64 0, .str [], .int .i64 0, .int .i64 0])] (Filling.start [] 0 xs.length [.int .i64 0, .str [], .int .i64 0, .int .i64 0])
  obtain ⟨B, h3, h4⟩ := h2.done (by simp)
  refine ⟨_, _, _, ?_, h3, h4⟩
  rw [e54]; simp only [lnL_list, List.length_map, Option.bind_some]
  rw [mks_eq (by unfold maxLen; omega) (by unfold maxLen; omega) rfl]
  simpa using h1
theorem c72 (x : SIns) (l : Bool) : run E (exec E) l 72 [x.d] = some x.d := by
  rw [run_ent, e72]
  simp [SIns.row, ia, ld, st, getRow, rowLen, storeRow, part, D.cells, D.isCell, bld, fillC, bsl, fillR, slS, slL, sliceStr, bound, cut0, srcRows, rowsFit, call_pure, call_view, nilCheck, rInt, rStr, rBool, rByte]
theorem c35_3 (xs : List SIns) (hl : szL (fun _ => 0) xs ≤ 1048576) : ∀ i, i ≤ xs.length → ∀ H, Filling H 0 0 xs.length [.int .i64 0, .int .i64 0, .int .i64 0] ((xs.take i).map SIns.row) → ∃ H', J E 35 3 [.list (xs.map SIns.row), .sl 0 0 xs.length, .int .i64 i] H = some (.sl 0 0 xs.length, H') ∧ Filling H' 0 0 xs.length [.int .i64 0, .int .i64 0, .int .i64 0] (xs.map SIns.row) := by
  have hx := szL_len hl
  refine loop_up (P := fun i => _) ?_ fun i hi ih H hF => ?_
  · intro H hF
    rw [List.take_length] at hF
    refine ⟨H, ?_, hF⟩
    rw [j35_3]; simp
  · rw [j35_3]
    have hlt : ((xs.take i).map SIns.row).length < xs.length := by simp; omega
    have hti : ((xs.take i).map SIns.row).length = i := by simp; omega
    have hnx : (xs.take i).map SIns.row ++ [SIns.row xs[i]] = (xs.take (i + 1)).map SIns.row := by rw [List.take_add_one, List.getElem?_eq_getElem hi, List.map_append]; rfl
    rw [Ev.ia_list (n := (i : Int)) (by omega) (by simpa using hi) (by simp [rInt, rStr])]
    simp only [lnL_list, List.length_map, Option.bind_some, bI_lss, asB_bool, Int.ofNat_lt, hi, decide_true, cond_true, ld_el, Int.toNat_natCast, List.getElem_map]
    rw [show part xs[i].row (0, 3, true) = some xs[i].d from rfl]; simp only [Option.bind_some]
    simp only [call_pure, optAll_cons, optAll_nil, SIns.readD, Option.bind_some, c72]
    rw [hF.ia (esz := 3) (i := (i : Int)) hlt rfl (by omega) rfl]; simp only [Option.bind_some]
    obtain ⟨H2, q, hF2, -, -⟩ := hF.store hlt (v := xs[i].d) (t := xs[i].row) (RepR.scalars rfl) (FreshB.nil H) rfl (z := 3) rfl rfl
    rw [q]; simp only [Option.bind_some]
    rw [hnx] at hF2
    obtain ⟨H3, k1, k2⟩ := ih H2 hF2
    refine ⟨H3, ?_, k2⟩
    simp only [bI_add, Option.bind_some]
    simp (disch := omega) only [wrap_i64]
    simpa using k1
theorem c35 (xs : List SIns) (hl : szL (fun _ => 0) xs ≤ 1048576) : OwnC E 1 35 [.list (xs.map SIns.row)] (.list (xs.map SIns.row)) := by
  have hx := szL_len hl
  obtain ⟨H, h1, h2⟩ := c35_3 xs hl 0 (by omega) [some (List.replicate xs.length [.int .i64 0, .int .i64 0, .int .i64 0])] (Filling.start [] 0 xs.length [.int .i64 0, .int .i64 0, .int .i64 0])
  obtain ⟨B, h3, h4⟩ := h2.done (by simp)
  refine ⟨_, _, _, ?_, h3, h4⟩
  rw [e35]; simp only [lnL_list, List.length_map, Option.bind_some]
  rw [mks_eq (by unfold maxLen; omega) (by unfold maxLen; omega) rfl]
  simpa using h1
theorem c67 (x : SLine) (l : Bool) : run E (exec E) l 67 [x.d] = some x.d := by
  rw [run_ent, e67]
  simp [SLine.row, ia, ld, st, getRow, rowLen, storeRow, part, D.cells, D.isCell, bld, fillC, bsl, fillR, slS, slL, sliceStr, bound, cut0, srcRows, rowsFit, call_pure, call_view, nilCheck, rInt, rStr, rBool, rByte]
theorem c26_3 (xs : List SLine) (hl : szL SLine.sz xs ≤ 1048576) : ∀ i, i ≤ xs.length → ∀ H, Filling H 0 0 xs.length [.int .i64 0, .str [], .str [], .int .i64 0, .int .i64 0, .int .i64 0] ((xs.take i).map SLine.row) → ∃ H', J E 26 3 [.list (xs.map SLine.row), .sl 0 0 xs.length, .int .i64 i] H = some (.sl 0 0 xs.length, H') ∧ Filling H' 0 0 xs.length [.int .i64 0, .str [], .str [], .int .i64 0, .int .i64 0, .int .i64 0] (xs.map SLine.row) := by
  have hx := szL_len hl
  refine loop_up (P := fun i => _) ?_ fun i hi ih H hF => ?_
  · intro H hF
    rw [List.take_length] at hF
    refine ⟨H, ?_, hF⟩
    rw [j26_3]; simp
  · rw [j26_3]
    have hlt : ((xs.take i).map SLine.row).length < xs.length := by simp; omega
    have hti : ((xs.take i).map SLine.row).length = i := by simp; omega
    have hnx : (xs.take i).map SLine.row ++ [SLine.row xs[i]] = (xs.take (i + 1)).map SLine.row := by rw [List.take_add_one, List.getElem?_eq_getElem hi, List.map_append]; rfl
    rw [Ev.ia_list (n := (i : Int)) (by omega) (by simpa using hi) (by simp [rInt, rStr])]
    simp only [lnL_list, List.length_map, Option.bind_some, bI_lss, asB_bool, Int.ofNat_lt, hi, decide_true, cond_true, ld_el, Int.toNat_natCast, List.getElem_map]
    rw [show part xs[i].row (0, 6, true) = some xs[i].d from rfl]; simp only [Option.bind_some]
    simp only [call_pure, optAll_cons, optAll_nil, SLine.readD, Option.bind_some, c67]
    rw [hF.ia (esz := 6) (i := (i : Int)) hlt rfl (by omega) rfl]; simp only [Option.bind_some]
    obtain ⟨H2, q, hF2, -, -⟩ := hF.store hlt (v := xs[i].d) (t := xs[i].row) (RepR.scalars rfl) (FreshB.nil H) rfl (z := 6) rfl rfl
    rw [q]; simp only [Option.bind_some]
    rw [hnx] at hF2
    obtain ⟨H3, k1, k2⟩ := ih H2 hF2
    refine ⟨H3, ?_, k2⟩
    simp only [bI_add, Option.bind_some]
    simp (disch := omega) only [wrap_i64]
    simpa using k1
theorem c26 (xs : List SLine) (hl : szL SLine.sz xs ≤ 1048576) : OwnC E 1 26 [.list (xs.map SLine.row)] (.list (xs.map SLine.row)) := by
  have hx := szL_len hl
  obtain ⟨H, h1, h2⟩ := c26_3 xs hl 0 (by omega) [some (List.replicate xs.length [.int .i64 0, .str [], .str [], .int .i64 0, .int .i64 0, .int .i64 0])] (Filling.start [] 0 xs.length [.int .i64 0, .str [], .str [], .int .i64 0, .int .i64 0, .int .i64 0])
  obtain ⟨B, h3, h4⟩ := h2.done (by simp)
  refine ⟨_, _, _, ?_, h3, h4⟩
  rw [e26]; simp only [lnL_list, List.length_map, Option.bind_some]
  rw [mks_eq (by unfold maxLen; omega) (by unfold maxLen; omega) rfl]
  simpa using h1
theorem c136 (x : SFile) (l : Bool) : run E (exec E) l 136 [x.d] = some x.d := by
  rw [run_ent, e136]
  simp [SFile.row, ia, ld, st, getRow, rowLen, storeRow, part, D.cells, D.isCell, bld, fillC, bsl, fillR, slS, slL, sliceStr, bound, cut0, srcRows, rowsFit, call_pure, call_view, nilCheck, rInt, rStr, rBool, rByte]
theorem c108_3 (xs : List SFile) (hl : szL SFile.sz xs ≤ 1048576) : ∀ i, i ≤ xs.length → ∀ H, Filling H 0 0 xs.length [.str [], .str []] ((xs.take i).map SFile.row) → ∃ H', J E 108 3 [.list (xs.map SFile.row), .sl 0 0 xs.length, .int .i64 i] H = some (.sl 0 0 xs.length, H') ∧ Filling H' 0 0 xs.length [.str [], .str []] (xs.map SFile.row) := by
  have hx := szL_len hl
  refine loop_up (P := fun i => _) ?_ fun i hi ih H hF => ?_
  · intro H hF
    rw [List.take_length] at hF
    refine ⟨H, ?_, hF⟩
    rw [j108_3]; simp
  · rw [j108_3]
    have hlt : ((xs.take i).map SFile.row).length < xs.length := by simp; omega
    have hti : ((xs.take i).map SFile.row).length = i := by simp; omega
    have hnx : (xs.take i).map SFile.row ++ [SFile.row xs[i]] = (xs.take (i + 1)).map SFile.row := by rw [List.take_add_one, List.getElem?_eq_getElem hi, List.map_append]; rfl
    rw [Ev.ia_list (n := (i : Int)) (by omega) (by simpa using hi) (by simp [rInt, rStr])]
    simp only [lnL_list, List.length_map, Option.bind_some, bI_lss, asB_bool, Int.ofNat_lt, hi, decide_true, cond_true, ld_el, Int.toNat_natCast, List.getElem_map]
    rw [show part xs[i].row (0, 2, true) = some xs[i].d from rfl]; simp only [Option.bind_some]
    simp only [call_pure, optAll_cons, optAll_nil, SFile.readD, Option.bind_some, c136]
    rw [hF.ia (esz := 2) (i := (i : Int)) hlt rfl (by omega) rfl]; simp only [Option.bind_some]
    obtain ⟨H2, q, hF2, -, -⟩ := hF.store hlt (v := xs[i].d) (t := xs[i].row) (RepR.scalars rfl) (FreshB.nil H) rfl (z := 2) rfl rfl
    rw [q]; simp only [Option.bind_some]
    rw [hnx] at hF2
    obtain ⟨H3, k1, k2⟩ := ih H2 hF2
    refine ⟨H3, ?_, k2⟩
    simp only [bI_add, Option.bind_some]
    simp (disch := omega) only [wrap_i64]
    simpa using k1
theorem c108 (xs : List SFile) (hl : szL SFile.sz xs ≤ 1048576) : OwnC E 1 108 [.list (xs.map SFile.row)] (.list (xs.map SFile.row)) := by
  have hx := szL_len hl
  obtain ⟨H, h1, h2⟩ := c108_3 xs hl 0 (by omega) [some (List.replicate xs.length [.str [], .str []])] (Filling.start [] 0 xs.length [.str [], .str []])
  obtain ⟨B, h3, h4⟩ := h2.done (by simp)
  refine ⟨_, _, _, ?_, h3, h4⟩
  rw [e108]; simp only [lnL_list, List.length_map, Option.bind_some]
  rw [mks_eq (by unfold maxLen; omega) (by unfold maxLen; omega) rfl]
  simpa using h1
theorem c137 (x : SWay) (l : Bool) : run E (exec E) l 137 [x.d] = some x.d := by
  rw [run_ent, e137]
  simp [SWay.row, ia, ld, st, getRow, rowLen, storeRow, part, D.cells, D.isCell, bld, fillC, bsl, fillR, slS, slL, sliceStr, bound, cut0, srcRows, rowsFit, call_pure, call_view, nilCheck, rInt, rStr, rBool, rByte]
theorem c109_3 (xs : List SWay) (hl : szL SWay.sz xs ≤ 1048576) : ∀ i, i ≤ xs.length → ∀ H, Filling H 0 0 xs.length [.str [], .int .i64 0] ((xs.take i).map SWay.row) → ∃ H', J E 109 3 [.list (xs.map SWay.row), .sl 0 0 xs.length, .int .i64 i] H = some (.sl 0 0 xs.length, H') ∧ Filling H' 0 0 xs.length [.str [], .int .i64 0] (xs.map SWay.row) := by
  have hx := szL_len hl
  refine loop_up (P := fun i => _) ?_ fun i hi ih H hF => ?_
  · intro H hF
    rw [List.take_length] at hF
    refine ⟨H, ?_, hF⟩
    rw [j109_3]; simp
  · rw [j109_3]
    have hlt : ((xs.take i).map SWay.row).length < xs.length := by simp; omega
    have hti : ((xs.take i).map SWay.row).length = i := by simp; omega
    have hnx : (xs.take i).map SWay.row ++ [SWay.row xs[i]] = (xs.take (i + 1)).map SWay.row := by rw [List.take_add_one, List.getElem?_eq_getElem hi, List.map_append]; rfl
    rw [Ev.ia_list (n := (i : Int)) (by omega) (by simpa using hi) (by simp [rInt, rStr])]
    simp only [lnL_list, List.length_map, Option.bind_some, bI_lss, asB_bool, Int.ofNat_lt, hi, decide_true, cond_true, ld_el, Int.toNat_natCast, List.getElem_map]
    rw [show part xs[i].row (0, 2, true) = some xs[i].d from rfl]; simp only [Option.bind_some]
    simp only [call_pure, optAll_cons, optAll_nil, SWay.readD, Option.bind_some, c137]
    rw [hF.ia (esz := 2) (i := (i : Int)) hlt rfl (by omega) rfl]; simp only [Option.bind_some]
    obtain ⟨H2, q, hF2, -, -⟩ := hF.store hlt (v := xs[i].d) (t := xs[i].row) (RepR.scalars rfl) (FreshB.nil H) rfl (z := 2) rfl rfl
    rw [q]; simp only [Option.bind_some]
    rw [hnx] at hF2
    obtain ⟨H3, k1, k2⟩ := ih H2 hF2
    refine ⟨H3, ?_, k2⟩
    simp only [bI_add, Option.bind_some]
    simp (disch := omega) only [wrap_i64]
    simpa using k1
theorem c109 (xs : List SWay) (hl : szL SWay.sz xs ≤ 1048576) : OwnC E 1 109 [.list (xs.map SWay.row)] (.list (xs.map SWay.row)) := by
  have hx := szL_len hl
  obtain ⟨H, h1, h2⟩ := c109_3 xs hl 0 (by omega) [some (List.replicate xs.length [.str [], .int .i64 0])] (Filling.start [] 0 xs.length [.str [], .int .i64 0])
  obtain ⟨B, h3, h4⟩ := h2.done (by simp)
  refine ⟨_, _, _, ?_, h3, h4⟩
  rw [e109]; simp only [lnL_list, List.length_map, Option.bind_some]
  rw [mks_eq (by unfold maxLen; omega) (by unfold maxLen; omega) rfl]
  simpa using h1
theorem c86 (x : SLoader) (h : x.sz ≤ 1048576) : OwnC E 2 86 [x.d] x.d := by
  simp only [SLoader.sz] at h
  unfold OwnC
  rw [e86]
  simp only [D.cells]
  rw [alloc_eq _ _ _ (SLoader.isCell x), alloc_eq _ _ _ rfl, alloc_eq _ _ _ rfl]
  simp only [List.length_nil, List.nil_append, List.cons_append, List.length_cons, Nat.zero_add, fa_ptr, Option.bind_some]
  have C0 := Conv.start x.row [.sl0, .sl0, .int .i64 0] 1
  generalize [some [x.row], some [[.sl0, .sl0, .int .i64 0]], some [[.sl0, .sl0, .int .i64 0]]] = G0 at C0 ⊢
  rw [C0.src, show part x.row (0, 1, false) = some (.list (x.Files.map SFile.row)) from rfl]; simp only [Option.bind_some]
  obtain ⟨d0, K0, B0, p0, r0, f0⟩ := (c108 x.Files (by omega)).call (H0 := G0) (ds := [.list (x.Files.map SFile.row)]) (by omega) rfl
  rw [p0]; simp only [Option.bind_some]
  have e0 : d0.cells = [d0] := by have := r0.cell rfl; cases d0 <;> first | rfl | (cases this; done)
  obtain ⟨G1, q0, C1⟩ := C0.store (v := d0) (t := [.list (x.Files.map SFile.row)]) (by rw [e0]; exact RepR.cons (B' := []) (r0.up (by omega)) .nil) (by simpa using f0) rfl (k := 0) (z := 1) rfl rfl (by decide)
  rw [q0]; simp only [Option.bind_some]
  rw [C1.src, show part x.row (1, 1, false) = some (.list (x.Ways.map SWay.row)) from rfl]; simp only [Option.bind_some]
  obtain ⟨d1, K1, B1, p1, r1, f1⟩ := (c109 x.Ways (by omega)).call (H0 := G1) (ds := [.list (x.Ways.map SWay.row)]) (by omega) rfl
  rw [p1]; simp only [Option.bind_some]
  have e1 : d1.cells = [d1] := by have := r1.cell rfl; cases d1 <;> first | rfl | (cases this; done)
  obtain ⟨G2, q1, C2⟩ := C1.store (v := d1) (t := [.list (x.Ways.map SWay.row)]) (by rw [e1]; exact RepR.cons (B' := []) (r1.up (by omega)) .nil) (by simpa using f1) rfl (k := 1) (z := 1) rfl rfl (by decide)
  rw [q1]; simp only [Option.bind_some]
  rw [C2.src, show part x.row (2, 1, false) = some (.int .i64 x.Parent) from rfl]; simp only [Option.bind_some]
  obtain ⟨G3, q2, C3⟩ := C2.store (v := .int .i64 x.Parent) (t := [.int .i64 x.Parent]) (RepR.scalars (r := [.int .i64 x.Parent]) rfl) (FreshB.nil G2) rfl (k := 2) (z := 1) rfl rfl (by decide)
  rw [q2]; simp only [Option.bind_some]
  obtain ⟨p, G, q, r, R⟩ := C3.finish rfl (z := 3) rfl rfl
  rw [p]; simp only [Option.bind_some]; rw [q]; simp only [Option.bind_some]; rw [r]
  exact ⟨_, _, _, rfl, R, C3.2.2.2.2.1⟩
theorem c47_3 (xs : List SLoader) (hl : szL SLoader.sz xs ≤ 1048576) : ∀ i, i ≤ xs.length → ∀ H, Filling H 0 1 xs.length [.sl0, .sl0, .int .i64 0] ((xs.take i).map SLoader.row) → ∃ H', J E 47 3 [.list (xs.map SLoader.row), .sl 0 0 xs.length, .int .i64 i] H = some (.sl 0 0 xs.length, H') ∧ Filling H' 0 1 xs.length [.sl0, .sl0, .int .i64 0] (xs.map SLoader.row) := by
  have hx := szL_len hl
  refine loop_up (P := fun i => _) ?_ fun i hi ih H hF => ?_
  · intro H hF
    rw [List.take_length] at hF
    refine ⟨H, ?_, hF⟩
    rw [j47_3]; simp
  · rw [j47_3]
    have hlt : ((xs.take i).map SLoader.row).length < xs.length := by simp; omega
    have hti : ((xs.take i).map SLoader.row).length = i := by simp; omega
    have hnx : (xs.take i).map SLoader.row ++ [SLoader.row xs[i]] = (xs.take (i + 1)).map SLoader.row := by rw [List.take_add_one, List.getElem?_eq_getElem hi, List.map_append]; rfl
    rw [Ev.ia_list (n := (i : Int)) (by omega) (by simpa using hi) (by simp [rInt, rStr])]
    simp only [lnL_list, List.length_map, Option.bind_some, bI_lss, asB_bool, Int.ofNat_lt, hi, decide_true, cond_true, ld_el, Int.toNat_natCast, List.getElem_map]
    rw [show part xs[i].row (0, 3, true) = some xs[i].d from rfl]; simp only [Option.bind_some]
    obtain ⟨d, H1, B1, p, r, fr⟩ := (c86 xs[i] (szL_get hl hi)).call (H0 := H) (ds := [xs[i].d]) (by omega) (by simp)
    rw [p]; simp only [Option.bind_some]
    obtain ⟨cs, rfl, r9⟩ : ∃ cs, d = .agg cs ∧ RepR true H1 1 cs xs[i].row B1 := by cases r with | agg h => exact ⟨_, rfl, h⟩ | sc h => cases h
    rw [hF.ia (esz := 3) (i := (i : Int)) hlt (fr.keep (by obtain ⟨_, _, h, _⟩ := hF; exact getBlk_lt' h)) (by omega) rfl]; simp only [Option.bind_some]
    obtain ⟨H2, q, hF2, -, -⟩ := hF.store hlt (v := .agg cs) (t := xs[i].row) r9 fr rfl (z := 3) rfl rfl
    rw [q]; simp only [Option.bind_some]
    rw [hnx] at hF2
    obtain ⟨H3, k1, k2⟩ := ih H2 hF2
    refine ⟨H3, ?_, k2⟩
    simp only [bI_add, Option.bind_some]
    simp (disch := omega) only [wrap_i64]
    simpa using k1
theorem c47 (xs : List SLoader) (hl : szL SLoader.sz xs ≤ 1048576) : OwnC E 2 47 [.list (xs.map SLoader.row)] (.list (xs.map SLoader.row)) := by
  have hx := szL_len hl
  obtain ⟨H, h1, h2⟩ := c47_3 xs hl 0 (by omega) [some (List.replicate xs.length [.sl0, .sl0, .int .i64 0])] (Filling.start [] 1 xs.length [.sl0, .sl0, .int .i64 0])
  obtain ⟨B, h3, h4⟩ := h2.done (by simp)
  refine ⟨_, _, _, ?_, h3, h4⟩
  rw [e47]; simp only [lnL_list, List.length_map, Option.bind_some]
  rw [mks_eq (by unfold maxLen; omega) (by unfold maxLen; omega) rfl]
  simpa using h1
end Go.Ev.Ytohkcloiokhglaa
