/- Contracts. -/
import Derived.Test.YtohkcloiokhglaaC2A1
namespace Go.Ev.Ytohkcloiokhglaa
set_option linter.unusedVariables false
set_option linter.unusedSimpArgs false
open Go.Ev
def bump (out : List Int) (x : SLine) : List Int := if inR x.Op 0 34 then out.set x.Op.toNat (out.getD x.Op.toNat 0 + 1) else out
def traceMost (l : List SLine) : List Int := l.foldl bump (List.replicate 35 0)
def Few (out : List Int) (n : Nat) : Prop := out.length = 35 ∧ ∀ v ∈ out, 0 ≤ v ∧ v ≤ n
theorem Few.bump {out : List Int} {n : Nat} (h : Few out n) (x : SLine) : Few (bump out x) (n + 1) := by
  obtain ⟨h1, h2⟩ := h
  unfold Ytohkcloiokhglaa.bump
  split
  · rename_i hr
    refine ⟨by simpa using h1, fun v hv => ?_⟩
    rcases List.mem_or_eq_of_mem_set hv with hv | rfl
    · have := h2 v hv; omega
    · have hlt : x.Op.toNat < out.length := by simp [inR] at hr; omega
      rw [List.getD_eq_getElem?_getD, List.getElem?_eq_getElem hlt]
      have := h2 _ (List.getElem_mem hlt)
      simp; omega
  · exact ⟨h1, fun v hv => by have := h2 v hv; omega⟩
theorem c27_3 (l : List SLine) (hl : l.length ≤ 1073741824) : ∀ i, i ≤ l.length → ∀ (out : List Int) (H : Heap), Few out i → getBlk H 0 = some (out.map rInt) → ∃ H', J E 27 3 [.sl 0 0 35, .list (l.map SLine.row), .int .i64 l.length, .int .i64 i] H = some (.sl 0 0 35, H') ∧ getBlk H' 0 = some (((l.drop i).foldl bump out).map rInt) := by
  refine loop_up (P := fun i => _) ?_ fun i hi ih out H hf hb => ?_
  · intro out H hf hb
    refine ⟨H, ?_, by simpa using hb⟩
    rw [j27_3]; simp
  · have hlt : ((i : Nat) : Int) < (l.length : Int) := by omega
    have hlb := getBlk_lt' hb
    rw [j27_3]
    rw [Ev.ia_list (n := (i : Int)) (by omega) (by simpa using hi) (by simp [SLine.row])]
    simp only [bI_lss, hlt, decide_true, cond_true, asB_bool, Option.bind_some, ld_el, Int.toNat_natCast, List.getElem_map]
    rw [show part l[i].row (0, 6, true) = some l[i].d from rfl]
    simp only [Option.bind_some]
    rw [alloc_eq _ _ _ rfl]
    rw [st_ptr (z := 6) (f := 0) (v := l[i].d) (getBlk_self H _ []) rfl rfl rfl (by decide)]
    simp only [Option.bind_some, fa_ptr]
    generalize hG : (H ++ [some [[D.int .i64 0, .str [], .str [], .int .i64 0, .int .i64 0, .int .i64 0]]]).set H.length _ = G
    have g1 : getBlk G H.length = some [l[i].row] := by rw [← hG, getBlk_set_self (by simp)]; rfl
    have g0 : getBlk G 0 = some (out.map rInt) := by rw [← hG, getBlk_ne (by omega), getBlk_left hlb, hb]
    rw [ld_ptr g1 rfl, show part l[i].row (4, 1, false) = some (.int .i64 l[i].Op) from rfl]
    simp only [Option.bind_some, call_pure, optAll_cons, optAll_nil, readT_int, c58, asB_bool]
    have hd : (l.drop i).foldl bump out = (l.drop (i + 1)).foldl bump (bump out l[i]) := by rw [List.drop_eq_getElem_cons hi]; rfl
    rw [hd]
    cases hr : inR l[i].Op 0 34 with
    | false =>
      simp only [cond_false]
      rw [j27_7]
      simp only [bI_add, Option.bind_some]
      simp (disch := omega) only [wrap_i64]
      have e : bump out l[i] = out := by simp [bump, hr]
      have := ih (bump out l[i]) G (hf.bump _) (by rw [e]; exact g0)
      simpa using this
    | true =>
      have hop : 0 ≤ l[i].Op ∧ l[i].Op ≤ 34 := by simpa [inR] using hr
      have hk : l[i].Op.toNat < out.length := by rw [hf.1]; omega
      simp only [cond_true]
      have hv := hf.2 _ (List.getElem_mem hk)
      rw [ld_ptr g1 rfl, show part l[i].row (4, 1, false) = some (.int .i64 l[i].Op) from rfl]
      simp only [Option.bind_some]
      rw [ia_sl (esz := 1) (row := rInt out[l[i].Op.toNat]) g0 hop.1 (by omega) (by simp [hk]) rfl]
      simp only [Option.bind_some, Nat.zero_add]
      rw [ld_ptr (row := rInt out[l[i].Op.toNat]) g0 (by simp [hk]), show part (rInt out[l[i].Op.toNat]) (0, 1, false) = some (.int .i64 out[l[i].Op.toNat]) from rfl]
      simp only [Option.bind_some, bI_add]
      rw [wrap_i64 (n := out[l[i].Op.toNat] + 1) (by omega) (by omega)]
      rw [st_ptr (z := 1) (f := 0) (row := rInt out[l[i].Op.toNat]) g0 (by simp [hk]) rfl rfl (Nat.le_refl 1)]
      simp only [Option.bind_some]
      rw [j27_7]
      simp only [bI_add, Option.bind_some]
      simp (disch := omega) only [wrap_i64]
      have := ih (bump out l[i]) (G.set 0 (some ((out.map rInt).set l[i].Op.toNat (rInt (out[l[i].Op.toNat] + 1))))) (hf.bump _) (by rw [getBlk_set_self (getBlk_lt' g0)]; simp [bump, hr, hk])
      simpa [rInt, D.cells] using this
theorem fewGo : ∀ (l : List SLine) (out : List Int) (n : Nat), Few out n → Few (l.foldl bump out) (n + l.length)
  | [], out, n, h => by simpa using h
  | x :: l, out, n, h => by
    have := fewGo l (bump out x) (n + 1) (h.bump x)
    simp only [List.foldl_cons, List.length_cons]
    rwa [show n + (l.length + 1) = n + 1 + l.length by omega]
theorem few0 : Few (List.replicate 35 0) 0 := ⟨by simp, fun v hv => by simp at hv; omega⟩
theorem traceMost_few (l : List SLine) : Few (traceMost l) l.length := by
  have := fewGo l _ _ few0
  simpa [traceMost] using this
theorem c27 (l : List SLine) (hl : l.length ≤ 1073741824) : OwnC E 1 27 [.list (l.map SLine.row)] (.list ((traceMost l).map rInt)) := by
  obtain ⟨H, h1, h2⟩ := c27_3 l hl 0 (by omega) (List.replicate 35 0) [some (List.replicate 35 [.int .i64 0])] few0 (by simp [rInt])
  rw [List.drop_zero] at h2
  refine ⟨.sl 0 0 35, H, [0], ?_, ?_, by simp⟩
  · rw [e27, show D.int .i64 35 = D.int .i64 ((35 : Nat) : Int) from rfl, mks_eq (by decide) (by decide) rfl]
    simpa using h1
  · have h3 := RepT.sl (o := true) (n := 0) h2 (RepRR.scalars fun r hr => by obtain ⟨x, _, rfl⟩ := List.mem_map.mp hr; rfl)
    have h4 : (((l.foldl bump (List.replicate 35 0)).map rInt)).length = 35 := by rw [List.length_map]; exact (traceMost_few l).1
    rw [h4] at h3
    exact h3
theorem c65 : ∃ rows, run E (exec E) true 65 [] = some (.list rows) ∧ rows.length = 35 := by
  rw [run_ent, e65]
  exact ⟨_, rfl, rfl⟩
theorem c25_3 (l : List SLine) (hl : l.length ≤ 1073741824) : ∀ i, i ≤ l.length → ∀ (out : List Int) (H : Heap), Few out i → getBlk H 0 = some (out.map rInt) → ∃ H', J E 25 3 [.list (l.map SLine.row), .sl 0 0 35, .int .i64 i] H = some (.sl 0 0 35, H') ∧ getBlk H' 0 = some (((l.drop i).foldl bump out).map rInt) := by
  refine loop_up (P := fun i => _) ?_ fun i hi ih out H hf hb => ?_
  · intro out H hf hb
    refine ⟨H, ?_, by simpa using hb⟩
    rw [j25_3]; simp
  · have hlt : ((i : Nat) : Int) < (l.length : Int) := by omega
    rw [j25_3]
    rw [Ev.ia_list (n := (i : Int)) (by omega) (by simpa using hi) (by simp [SLine.row])]
    simp only [lnL_list, List.length_map, bI_lss, hlt, decide_true, cond_true, asB_bool, Option.bind_some, fa_el, ld_el, Int.toNat_natCast, List.getElem_map, Nat.zero_add]
    rw [show part l[i].row (4, 1, false) = some (.int .i64 l[i].Op) from rfl]
    simp only [Option.bind_some, lnL_sl, bI_sub, call_pure, optAll_cons, optAll_nil, readT_int]
    rw [wrap_i64 (n := ((35 : Nat) : Int) - 1) (by omega) (by omega), c66]
    simp only [Option.bind_some, asB_bool]
    have hd : (l.drop i).foldl bump out = (l.drop (i + 1)).foldl bump (bump out l[i]) := by rw [List.drop_eq_getElem_cons hi]; rfl
    rw [hd]
    rw [show ((35 : Nat) : Int) - 1 = 34 from rfl]
    cases hr : inR l[i].Op 0 34 with
    | false =>
      simp only [cond_false]
      rw [j25_4]
      simp only [bI_add, Option.bind_some]
      simp (disch := omega) only [wrap_i64]
      have e : bump out l[i] = out := by simp [bump, hr]
      have := ih (bump out l[i]) H (hf.bump _) (by rw [e]; exact hb)
      simpa using this
    | true =>
      have hop : 0 ≤ l[i].Op ∧ l[i].Op ≤ 34 := by simpa [inR] using hr
      have hk : l[i].Op.toNat < out.length := by rw [hf.1]; omega
      simp only [cond_true]
      have hv := hf.2 _ (List.getElem_mem hk)
      rw [Ev.ia_list (n := (i : Int)) (by omega) (by simpa using hi) (by simp [SLine.row])]
      simp only [Option.bind_some, fa_el, ld_el, Int.toNat_natCast, List.getElem_map, Nat.zero_add]
      rw [show part l[i].row (4, 1, false) = some (.int .i64 l[i].Op) from rfl]
      simp only [Option.bind_some]
      rw [ia_sl (esz := 1) (row := rInt out[l[i].Op.toNat]) hb hop.1 (by omega) (by simp [hk]) rfl]
      simp only [Option.bind_some, Nat.zero_add]
      rw [ld_ptr (row := rInt out[l[i].Op.toNat]) hb (by simp [hk]), show part (rInt out[l[i].Op.toNat]) (0, 1, false) = some (.int .i64 out[l[i].Op.toNat]) from rfl]
      simp only [Option.bind_some, bI_add]
      rw [wrap_i64 (n := out[l[i].Op.toNat] + 1) (by omega) (by omega)]
      rw [st_ptr (z := 1) (f := 0) (row := rInt out[l[i].Op.toNat]) hb (by simp [hk]) rfl rfl (Nat.le_refl 1)]
      simp only [Option.bind_some]
      rw [j25_4]
      simp only [bI_add, Option.bind_some]
      simp (disch := omega) only [wrap_i64]
      have := ih (bump out l[i]) (H.set 0 (some ((out.map rInt).set l[i].Op.toNat (rInt (out[l[i].Op.toNat] + 1))))) (hf.bump _) (by rw [getBlk_set_self (getBlk_lt' hb)]; simp [bump, hr, hk])
      simpa [rInt, D.cells] using this
theorem c25 (l : List SLine) (hl : l.length ≤ 1073741824) : run E (exec E) true 25 [.list (l.map SLine.row)] = some (.list ((traceMost l).map rInt)) := by
  obtain ⟨H, h1, h2⟩ := c25_3 l hl 0 (by omega) (List.replicate 35 0) [some (List.replicate 35 [.int .i64 0])] few0 (by simp [rInt])
  rw [List.drop_zero] at h2
  obtain ⟨rows, h3, h4⟩ := c65
  rw [run_ent, e25, call_view]
  simp only [optAll_nil, Option.bind_some, h3, lnL_list, h4, List.foldl_nil]
  rw [mks_eq (by decide) (by decide) rfl]
  simp only [Option.bind_some, List.length_nil, List.nil_append]
  simp only [Int.natCast_zero] at h1
  rw [h1]
  simp only [Option.bind_some]
  have h3 := RepT.sl (o := true) (n := 0) h2 (RepRR.scalars fun r hr => by obtain ⟨x, _, rfl⟩ := List.mem_map.mp hr; rfl)
  have h4 : (((l.foldl bump (List.replicate 35 0)).map rInt)).length = 35 := by rw [List.length_map]; exact (traceMost_few l).1
  rw [h4] at h3
  exact h3.read (.inl rfl) (by decide)

end Go.Ev.Ytohkcloiokhglaa
