/- Contracts. -/
import Derived.Test.YtohkcloiokhglaaC1A2
namespace Go.Ev.Ytohkcloiokhglaa
set_option linter.unusedVariables false
set_option linter.unusedSimpArgs false
open Go.Ev
theorem c67 (x : SLine) (l : Bool) : run E (exec E) l 67 [x.d] = some x.d := by
  rw [run_ent, e67]
  simp [SLine.row, ia, ld, st, getRow, rowLen, storeRow, part, D.cells, D.isCell, bld, fillC, bsl, fillR, slS, slL, sliceStr, bound, cut0, srcRows, rowsFit, call_pure, call_view, nilCheck, rInt, rStr, rBool, rByte]
theorem c26_3 (xs : List SLine) (hl : szL SLine.sz xs ≤ 1048576) : ∀ i, i ≤ xs.length → ∀ H, Filling H 0 0 xs.length [.int .i64 0, .str [], .str [], .int .i64 0, .int .i64 0, .int .i64 0] ((xs.take i).map SLine.row) → ∃ H', J E 26 3 [.list (xs.map SLine.row), .sl 0 0 xs.length, .int .i64 i] H = some (.sl 0 0 xs.length, H') ∧ Filling H' 0 0 xs.length [.int .i64 0, .str [], .str [], .int .i64 0, .int .i64 0, .int .i64 0] (xs.map SLine.row) := by
  have hx := szL_len hl
  refine loop_up (P := fun i => _) ?_ fun i hi ih H hF => ?_
  · intro H hF
    rw [List.take_length] at hF
    refine ⟨H, ?_, hF⟩
    rw [j26_3]; simp
  · rw [j26_3]
    have hlt : ((xs.take i).map SLine.row).length < xs.length := by simp; omega
    have hti : ((xs.take i).map SLine.row).length = i := by simp; omega
    have hnx : (xs.take i).map SLine.row ++ [SLine.row xs[i]] = (xs.take (i + 1)).map SLine.row := by rw [List.take_add_one, List.getElem?_eq_getElem hi, List.map_append]; rfl
    rw [Ev.ia_list (n := (i : Int)) (by omega) (by simpa using hi) (by simp [rInt, rStr])]
    simp only [lnL_list, List.length_map, Option.bind_some, bI_lss, asB_bool, Int.ofNat_lt, hi, decide_true, cond_true, ld_el, Int.toNat_natCast, List.getElem_map]
    rw [show part xs[i].row (0, 6, true) = some xs[i].d from rfl]; simp only [Option.bind_some]
    simp only [call_pure, optAll_cons, optAll_nil, SLine.readD, Option.bind_some, c67]
    rw [hF.ia (esz := 6) (i := (i : Int)) hlt rfl (by omega) rfl]; simp only [Option.bind_some]
    obtain ⟨H2, q, hF2, -, -⟩ := hF.store hlt (v := xs[i].d) (t := xs[i].row) (RepR.scalars rfl) (FreshB.nil H) rfl (z := 6) rfl rfl
    rw [q]; simp only [Option.bind_some]
    rw [hnx] at hF2
    obtain ⟨H3, k1, k2⟩ := ih H2 hF2
    refine ⟨H3, ?_, k2⟩
    simp only [bI_add, Option.bind_some]
    simp (disch := omega) only [wrap_i64]
    simpa using k1
theorem c26 (xs : List SLine) (hl : szL SLine.sz xs ≤ 1048576) : OwnC E 1 26 [.list (xs.map SLine.row)] (.list (xs.map SLine.row)) := by
  have hx := szL_len hl
  obtain ⟨H, h1, h2⟩ := c26_3 xs hl 0 (by omega) [some (List.replicate xs.length [.int .i64 0, .str [], .str [], .int .i64 0, .int .i64 0, .int .i64 0])] (Filling.start [] 0 xs.length [.int .i64 0, .str [], .str [], .int .i64 0, .int .i64 0, .int .i64 0])
  obtain ⟨B, h3, h4⟩ := h2.done (by simp)
  refine ⟨_, _, _, ?_, h3, h4⟩
  rw [e26]; simp only [lnL_list, List.length_map, Option.bind_some]
  rw [mks_eq (by unfold maxLen; omega) (by unfold maxLen; omega) rfl]
  simpa using h1
end Go.Ev.Ytohkcloiokhglaa
