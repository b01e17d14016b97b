/- Contracts. -/
import Derived.Test.YtmljkoieihaomaaC3E1
namespace Go.Ev.Ytmljkoieihaomaa
set_option linter.unusedVariables false
set_option linter.unusedSimpArgs false
open Go.Ev
/-! Loaders and paths: the other way. -/
theorem c69_2 (l : List Int) (hl : l.length ≤ 140737488351232) (v : Int) (H : Heap) : ∀ i, i ≤ l.length → J E 69 2 [.list (l.map rInt), .int .i64 v, .int .i64 i] H = some (.bool (decide (v ∈ l.drop i)), H) := by
  apply loop_up
  · rw [j69_2]
    simp only [lnL_list, List.length_map, bI_lss, Int.lt_irrefl, decide_false, Option.bind_some, asB_bool, cond_false, List.drop_length, ret_one]
    rfl
  · intro i hi ih
    have hlt : ((i : Nat) : Int) < (l.length : Int) := by omega
    rw [j69_2, List.drop_eq_getElem_cons hi]
    simp only [lnL_list, List.length_map, bI_lss, hlt, decide_true, Option.bind_some, asB_bool, cond_true]
    rw [ia_list (n := (i : Int)) (esz := 1) (by omega) (by simpa using hi) (by simp [rInt])]
    simp only [Option.bind_some, ld_el, Int.toNat_natCast, List.getElem_map, show part (rInt l[i]) (0, 1, false) = some (.int .i64 l[i]) from rfl, bI_eql, asB_bool, List.mem_cons]
    by_cases hp : v = l[i]
    · simp [hp]
    · have hp' : ¬ l[i] = v := fun e => hp e.symm
      simp only [hp, hp', decide_false, cond_false, false_or, bI_add, Option.bind_some]
      rw [wrap_i64 (n := (i : Int) + 1) (by omega) (by omega)]
      exact ih
theorem c69 (l : List Int) (hl : l.length ≤ 140737488351232) (v : Int) : run E (exec E) false 69 [.list (l.map rInt), .int .i64 v] = some (.bool (decide (v ∈ l))) := by
  rw [run_ent, e69, show D.int .i64 0 = D.int .i64 ((0 : Nat) : Int) from rfl, c69_2 l hl v [] 0 (by omega)]
  simp
theorem c71_2 (l : SLoader) (w : l.wf) (n : List UInt8) (H : Heap) (b : Nat) (h : getBlk H b = some [l.row]) : ∀ i, i ≤ l.Files.length → J E 71 2 [.str n, .ptr b 0 0, .int .i64 i] H = some (.int .i64 (idxFrom (fileNamed n) i (l.Files.drop i)), H) := by
  have m0 : l.row[0 + 0]? = some (.list (l.Files.map SFile.row)) := rfl
  have hw := w.1.1
  apply loop_up
  · rw [j71_2]
    simp only [fa_ptr, ld_in0 h, m0, lnL_list, List.length_map, bI_lss, Int.lt_irrefl, decide_false, Option.bind_some, asB_bool, cond_false, List.drop_length, ret_one, idxFrom]
  · intro i hi ih
    have hlt : ((i : Nat) : Int) < (l.Files.length : Int) := by omega
    rw [j71_2, List.drop_eq_getElem_cons hi, idxFrom]
    simp only [fa_ptr, ld_in0 h, m0, lnL_list, List.length_map, bI_lss, hlt, decide_true, Option.bind_some, asB_bool, cond_true]
    rw [ia_file (n := (i : Int)) (by omega) (by omega)]
    simp only [Option.bind_some, fa_el, ld_el, Int.toNat_natCast, show part (l.Files[i]).row (0 + 0, 1, false) = some (.str (l.Files[i]).Name) from rfl, bS_eql, asB_bool, fileNamed, decide_eq_true_eq]
    by_cases hp : (l.Files[i]).Name = n
    · simp only [hp, decide_true, cond_true, if_true, ret_one]
    · simp only [hp, decide_false, cond_false, if_false, bI_add, Option.bind_some]
      rw [wrap_i64 (n := (i : Int) + 1) (by omega) (by omega)]
      exact ih
theorem c71 (l : SLoader) (w : l.wf) (n : List UInt8) : run E (exec E) false 71 [l.d, .str n] = some (.int .i64 (idxM (fileNamed n) l.Files)) := by
  rw [run_ent, e71, alloc_eq _ _ _ rfl]
  rw [show D.cells l.d = l.row from rfl, show D.int .i64 0 = D.int .i64 ((0 : Nat) : Int) from rfl, c71_2 l w n _ _ (getBlk_self [] [l.row] []) 0 (by omega)]
  simp [idxM]
def wayTo (l : SLoader) (n : List UInt8) : Int := match l.Ways.find? (wayNamed n) with | some w => w.To | none => -1
theorem c70_2 (l : SLoader) (w : l.wf) (n : List UInt8) (H : Heap) (b : Nat) (h : getBlk H b = some [l.row]) : ∀ i, i ≤ l.Ways.length → J E 70 2 [.str n, .ptr b 0 0, .int .i64 i] H = some (.int .i64 (match (l.Ways.drop i).find? (wayNamed n) with | some w => w.To | none => -1), H) := by
  have m1 : l.row[0 + 1]? = some (.list (l.Ways.map SWay.row)) := rfl
  have hw := w.2.1.1
  apply loop_up
  · rw [j70_2]
    simp only [fa_ptr, ld_in0 h, m1, lnL_list, List.length_map, bI_lss, Int.lt_irrefl, decide_false, Option.bind_some, asB_bool, cond_false, List.drop_length, ret_one, List.find?_nil]
  · intro i hi ih
    have hlt : ((i : Nat) : Int) < (l.Ways.length : Int) := by omega
    rw [j70_2, List.drop_eq_getElem_cons hi, List.find?_cons]
    simp only [fa_ptr, ld_in0 h, m1, lnL_list, List.length_map, bI_lss, hlt, decide_true, Option.bind_some, asB_bool, cond_true]
    rw [ia_way (n := (i : Int)) (by omega) (by omega)]
    simp only [Option.bind_some, fa_el, ld_el, Int.toNat_natCast, show part (l.Ways[i]).row (0 + 0, 1, false) = some (.str (l.Ways[i]).Name) from rfl, show part (l.Ways[i]).row (0 + 1, 1, false) = some (.int .i64 (l.Ways[i]).To) from rfl, bS_eql, asB_bool, wayNamed]
    by_cases hp : (l.Ways[i]).Name = n
    · simp only [hp, decide_true, cond_true, ret_one]
    · simp only [hp, decide_false, cond_false, bI_add, Option.bind_some]
      rw [wrap_i64 (n := (i : Int) + 1) (by omega) (by omega)]
      exact ih
theorem c70 (l : SLoader) (w : l.wf) (n : List UInt8) : run E (exec E) false 70 [l.d, .str n] = some (.int .i64 (wayTo l n)) := by
  rw [run_ent, e70, alloc_eq _ _ _ rfl]
  rw [show D.cells l.d = l.row from rfl, show D.int .i64 0 = D.int .i64 ((0 : Nat) : Int) from rfl, c70_2 l w n _ _ (getBlk_self [] [l.row] []) 0 (by omega)]
  simp [wayTo]
def tailOk (l : SLoader) (many : Int) : Bool := decide (l.Files.length ≤ 5) && (decide (l.Ways.length ≤ 4) && inR l.Parent (-1) (many - 1))
theorem c114_15 (list : List SLoader) (hl : list.length ≤ 140737488351232) (l : SLoader) (w : l.wf) (H : Heap) (h0 : getBlk H 0 = some [[.list (list.map SLoader.row), .list [], .list [], .list []]]) (h1 : getBlk H 1 = some [l.row]) (i : Nat) (hi : i < l.Ways.length) (v : Bool) (nx : J E 114 13 [.ptr 0 0 0, .ptr 1 0 0, .int .i64 ((i + 1 : Nat) : Int)] H = some (.bool v, H)) :
    J E 114 15 [.ptr 0 0 0, .ptr 1 0 0, .int .i64 i] H = some (.bool (nameOk (l.Ways[i]).Name && (inR (l.Ways[i]).To 0 (list.length - 1) && (wayLt l.Ways i l.Ways[i] && v))), H) := by
  obtain ⟨⟨w1, w2⟩, ⟨w3, w4⟩, w5⟩ := w
  have wx := w4 _ (List.getElem_mem hi)
  have m1 : l.row[0 + 1]? = some (.list (l.Ways.map SWay.row)) := rfl
  have k0 : ([.list (list.map SLoader.row), .list [], .list [], .list []] : List D)[0 + 0]? = some (.list (list.map SLoader.row)) := rfl
  have hia := ia_way (H := H) (n := (i : Int)) (l := l.Ways) (by omega) (by omega)
  simp only [Int.toNat_natCast] at hia
  rw [j114_15]
  simp only [fa_ptr, ld_in0 h1, ld_in0 h0, m1, k0, Option.bind_some, hia, fa_el, ld_el]
  generalize l.Ways[i] = x at wx hia ⊢
  have r0 : part x.row (0 + 0, 1, false) = some (.str x.Name) := rfl
  have r1 : part x.row (0 + 1, 1, false) = some (.int .i64 x.To) := rfl
  simp only [r0, r1, Option.bind_some]
  rw [str_call (c67 _ wx.1)]
  simp only [Option.bind_some, unOp_not, asB_bool]
  cases hn : nameOk x.Name with
  | false => rfl
  | true =>
    simp only [Bool.not_true, cond_false, ld_in0 h1, ld_in0 h0, m1, k0, Option.bind_some, lnL_list, List.length_map, bI_sub, Bool.true_and, hia, fa_el, ld_el, r1]
    rw [wrap_i64 (n := (list.length : Int) - 1) (by omega) (by omega)]
    rw [pure_call (ts := [.int .i64 x.To, .int .i64 0, .int .i64 ((list.length : Int) - 1)]) (by simp) (c66 _ _ _)]
    simp only [Option.bind_some, unOp_not, asB_bool]
    cases hr : inR x.To 0 (list.length - 1) with
    | false => rfl
    | true =>
      simp only [Bool.not_true, cond_false, bI_gtr, Option.bind_some, asB_bool, Bool.true_and, bI_add]
      rw [wrap_i64 (n := (i : Int) + 1) (by omega) (by omega)]
      cases i with
      | zero =>
        simp only [Int.natCast_zero, Int.lt_irrefl, decide_false, cond_false, wayLt, Bool.true_and]
        exact nx
      | succ k =>
        have hgt : (0 : Int) < ((k + 1 : Nat) : Int) := by omega
        simp only [hgt, decide_true, cond_true, ld_in0 h1, m1, Option.bind_some, bI_sub, hia, fa_el, ld_el, r0]
        rw [wrap_i64 (n := ((k + 1 : Nat) : Int) - 1) (by omega) (by omega), show ((k + 1 : Nat) : Int) - 1 = (k : Int) by omega]
        rw [ia_way (n := (k : Int)) (by omega) (by omega)]
        simp only [Option.bind_some, fa_el, ld_el, Int.toNat_natCast, show part (l.Ways[k]).row (0 + 0, 1, false) = some (.str (l.Ways[k]).Name) from rfl, r0]
        rw [show bS .leq (.str x.Name) (.str (l.Ways[k]).Name) = some (.bool (Op.bytesLess x.Name (l.Ways[k]).Name || x.Name == (l.Ways[k]).Name)) from rfl, less_total]
        simp only [Option.bind_some, asB_bool, wayLt, List.getElem?_eq_getElem (show k < l.Ways.length by omega)]
        cases hl : Op.bytesLess (l.Ways[k]).Name x.Name with
        | false => rfl
        | true =>
          simp only [Bool.not_true, cond_false, Bool.true_and]
          exact nx
theorem c114_13 (list : List SLoader) (hl : list.length ≤ 140737488351232) (l : SLoader) (w : l.wf) (H : Heap) (h0 : getBlk H 0 = some [[.list (list.map SLoader.row), .list [], .list [], .list []]]) (h1 : getBlk H 1 = some [l.row]) : ∀ i, i ≤ l.Ways.length → J E 114 13 [.ptr 0 0 0, .ptr 1 0 0, .int .i64 i] H = some (.bool (waysOk l.Ways list.length i (l.Ways.drop i) && tailOk l list.length), H) := by
  have m0 : l.row[0 + 0]? = some (.list (l.Files.map SFile.row)) := rfl
  have m1 : l.row[0 + 1]? = some (.list (l.Ways.map SWay.row)) := rfl
  have m2 : l.row[0 + 2]? = some (.int .i64 l.Parent) := rfl
  have k0 : ([.list (list.map SLoader.row), .list [], .list [], .list []] : List D)[0 + 0]? = some (.list (list.map SLoader.row)) := rfl
  have w0 := w
  obtain ⟨⟨w1, w2⟩, ⟨w3, w4⟩, w5⟩ := w
  apply loop_up
  · rw [j114_13]
    simp only [fa_ptr, ld_in0 h1, ld_in0 h0, m0, m1, m2, k0, lnL_list, List.length_map, bI_lss, Int.lt_irrefl, decide_false, Option.bind_some, asB_bool, cond_false, List.drop_length, waysOk, Bool.true_and, tailOk, bI_leq]
    by_cases g1 : l.Files.length ≤ 5
    · simp only [g1, show (l.Files.length : Int) ≤ 5 by omega, decide_true, cond_true, Bool.true_and]
      by_cases g2 : l.Ways.length ≤ 4
      · simp only [g2, show (l.Ways.length : Int) ≤ 4 by omega, decide_true, cond_true, Bool.true_and, bI_sub, Option.bind_some]
        rw [wrap_i64 (n := (list.length : Int) - 1) (by omega) (by omega)]
        rw [pure_call (ts := [.int .i64 l.Parent, .int .i64 (-1), .int .i64 ((list.length : Int) - 1)]) (by simp) (c66 _ _ _)]
        simp only [Option.bind_some, ret_one]
      · simp [g2, show ¬ (l.Ways.length : Int) ≤ 4 by omega]
    · simp [g1, show ¬ (l.Files.length : Int) ≤ 5 by omega]
  · intro i hi ih
    have hlt : ((i : Nat) : Int) < (l.Ways.length : Int) := by omega
    rw [j114_13, List.drop_eq_getElem_cons hi, waysOk]
    simp only [fa_ptr, ld_in0 h1, m1, lnL_list, List.length_map, bI_lss, hlt, decide_true, Option.bind_some, asB_bool, cond_true]
    rw [c114_15 list hl l w0 H h0 h1 i hi _ ih]
    simp only [Bool.and_assoc]
theorem any_drop {α : Type} (p : α → Bool) (l : List α) {k i : Nat} (hk : k < i) (hi : i ≤ l.length) : ((l.take i).drop k).any p = (p (l[k]'(by omega)) || ((l.take i).drop (k + 1)).any p) := by
  rw [List.drop_eq_getElem_cons (show k < (l.take i).length by simp; omega)]
  simp
theorem c114_8 (l : SLoader) (w : l.wf) (H : Heap) (h1 : getBlk H 1 = some [l.row]) (i : Nat) (hi : i < l.Files.length) (b : Nat) (x : SFile) (hb : getBlk H b = some [x.row]) (v : Bool) (H' : Heap) (nx : J E 114 2 [.ptr 0 0 0, .ptr 1 0 0, .int .i64 ((i + 1 : Nat) : Int)] H = some (.bool v, H')) : ∀ k, k ≤ i → ∃ H'', J E 114 8 [.ptr 0 0 0, .ptr 1 0 0, .int .i64 i, .ptr b 0 0, .int .i64 k] H = some (.bool (!(((l.Files.take i).drop k).any (fileNamed x.Name)) && v), H'') ∧ (H'' = H ∨ H'' = H') := by
  have m0 : l.row[0 + 0]? = some (.list (l.Files.map SFile.row)) := rfl
  have hw := w.1.1
  apply loop_up
  · rw [j114_8]
    simp only [bI_lss, Int.lt_irrefl, decide_false, Option.bind_some, asB_bool, cond_false, bI_add]
    rw [wrap_i64 (n := (i : Int) + 1) (by omega) (by omega)]
    refine ⟨H', ?_, .inr rfl⟩
    have : (l.Files.take i).drop i = [] := by rw [List.drop_eq_nil_iff]; simp; omega
    rw [this]
    simp only [List.any_nil, Bool.not_false, Bool.true_and]
    exact nx
  · intro k hk ih
    have hlt : ((k : Nat) : Int) < (i : Int) := by omega
    rw [j114_8, any_drop _ _ hk (by omega)]
    simp only [bI_lss, hlt, decide_true, Option.bind_some, asB_bool, cond_true, fa_ptr, ld_in0 h1, m0]
    rw [ia_file (n := (k : Int)) (by omega) (by omega)]
    simp only [Option.bind_some, fa_el, ld_el, Int.toNat_natCast, show part (l.Files[k]).row (0 + 0, 1, false) = some (.str (l.Files[k]).Name) from rfl, ld_in0 hb, show x.row[0 + 0]? = some (.str x.Name) from rfl, bS_eql, asB_bool]
    by_cases hp : (l.Files[k]).Name = x.Name
    · simp only [hp, decide_true, cond_true, fileNamed, Bool.true_or, Bool.not_true, Bool.false_and]
      exact ⟨H, rfl, .inl rfl⟩
    · simp only [hp, decide_false, cond_false, bI_add, Option.bind_some, fileNamed, Bool.false_or]
      rw [wrap_i64 (n := (k : Int) + 1) (by omega) (by omega)]
      exact ih
theorem c114_2 (list : List SLoader) (hl : list.length ≤ 140737488351232) (l : SLoader) (w : l.wf) (H : Heap) (h0 : getBlk H 0 = some [[.list (list.map SLoader.row), .list [], .list [], .list []]]) (h1 : getBlk H 1 = some [l.row]) : ∀ i, i ≤ l.Files.length → ∀ K, ∃ H', J E 114 2 [.ptr 0 0 0, .ptr 1 0 0, .int .i64 i] (H ++ K) = some (.bool (filesOk l.Files i (l.Files.drop i) && (waysOk l.Ways list.length 0 l.Ways && tailOk l list.length)), H') := by
  have m0 : l.row[0 + 0]? = some (.list (l.Files.map SFile.row)) := rfl
  have w0 := w
  obtain ⟨⟨w1, w2⟩, ⟨w3, w4⟩, w5⟩ := w
  apply loop_up
  · intro K
    rw [j114_2]
    simp only [fa_ptr, ld_in h1, m0, lnL_list, List.length_map, bI_lss, Int.lt_irrefl, decide_false, Option.bind_some, asB_bool, cond_false, List.drop_length, filesOk, Bool.true_and]
    have := c114_13 list hl l w0 (H ++ K) (getBlk_app h0) (getBlk_app h1) 0 (by omega)
    exact ⟨_, this⟩
  · intro i hi ih K
    have hlt : ((i : Nat) : Int) < (l.Files.length : Int) := by omega
    have wx := w2 _ (List.getElem_mem hi)
    rw [j114_2, List.drop_eq_getElem_cons hi, filesOk]
    simp only [fa_ptr, ld_in h1, m0, lnL_list, List.length_map, bI_lss, hlt, decide_true, Option.bind_some, asB_bool, cond_true]
    rw [ia_file (n := (i : Int)) (by omega) (by omega)]
    simp only [Option.bind_some, ld_el, Int.toNat_natCast, show part (l.Files[i]).row (0, 2, true) = some (l.Files[i]).d from rfl]
    rw [alloc_eq _ _ _ rfl, put_loc (z := 2) (H ++ K) [.str [], .str []] (l.Files[i]).row rfl rfl rfl]
    simp only [Option.bind_some]
    generalize l.Files[i] = x at wx
    have hb : getBlk (H ++ K ++ [some [x.row]]) (H ++ K).length = some [x.row] := getBlk_self _ _ []
    have r0 : x.row[0 + 0]? = some (.str x.Name) := rfl
    have r1 : x.row[0 + 1]? = some (.str x.Text) := rfl
    simp only [fa_ptr, Option.bind_some, ld_in0 hb, r0, r1]
    rw [str_call (c67 _ wx.1)]
    simp only [Option.bind_some, unOp_not, asB_bool]
    cases hn : nameOk x.Name with
    | false => exact ⟨_, rfl⟩
    | true =>
      simp only [Bool.not_true, cond_false, ld_in0 hb, r0, Option.bind_some]
      rw [str_call (c68 _)]
      simp only [Option.bind_some, bI_geq, asB_bool, built_first]
      cases hf : isFirstM x.Name with
      | true => exact ⟨_, rfl⟩
      | false =>
        simp only [cond_false, ld_in0 hb, r1, Option.bind_some, lnS_str, bI_gtr, asB_bool]
        by_cases ht : x.Text.length ≤ 900
        · simp only [show ¬ (900 : Int) < x.Text.length by omega, decide_false, cond_false, ht, decide_true, Bool.not_false, Bool.true_and]
          obtain ⟨H', e⟩ := ih (K ++ [some [x.row]])
          rw [← List.append_assoc] at e
          obtain ⟨H'', e2, -⟩ := c114_8 l w0 (H ++ K ++ [some [x.row]]) (by rw [List.append_assoc]; exact getBlk_app h1) i hi _ x hb _ _ e 0 (by omega)
          simp only [List.drop_zero, Int.natCast_zero] at e2
          rw [e2]
          exact ⟨_, by rw [Bool.and_assoc]⟩
        · simp only [show (900 : Int) < x.Text.length by omega, decide_true, cond_true, ht, decide_false]
          exact ⟨_, rfl⟩
theorem c114 (list : List SLoader) (hl : list.length ≤ 140737488351232) (l : SLoader) (w : l.wf) : run E (exec E) false 114 [.agg [.list (list.map SLoader.row), .list [], .list [], .list []], l.d] = some (.bool (loaderOk l list.length)) := by
  rw [run_ent, e114, alloc_eq _ _ _ rfl, alloc_eq _ _ _ rfl]
  obtain ⟨H', e⟩ := c114_2 list hl l w [some [[.list (list.map SLoader.row), .list [], .list [], .list []]], some [l.row]] rfl rfl 0 (by omega) []
  simp only [List.append_nil, Int.natCast_zero] at e
  rw [show ([] ++ [some [D.cells (.agg [.list (list.map SLoader.row), .list [], .list [], .list []])]] ++ [some [D.cells l.d]] : Heap) = [some [[.list (list.map SLoader.row), .list [], .list [], .list []]], some [l.row]] from rfl, show ([] : Heap).length = 0 from rfl, show ([] ++ [some [D.cells (.agg [.list (list.map SLoader.row), .list [], .list [], .list []])]] : Heap).length = 1 from rfl, e]
  simp only [Option.bind_some, readT_bool, loaderOk, tailOk, List.drop_zero]
  congr 2
  cases decide (l.Files.length ≤ 5) <;> cases decide (l.Ways.length ≤ 4) <;> cases inR l.Parent (-1) (list.length - 1) <;> cases filesOk l.Files 0 l.Files <;> cases waysOk l.Ways list.length 0 l.Ways <;> rfl
theorem c65_2 (list : List SLoader) (w : LoadersWf list) (H : Heap) : ∀ i, i ≤ list.length → J E 65 2 [.list (list.map SLoader.row), .int .i64 i] H = some (.bool ((list.drop i).all (fun l => loaderOk l list.length) && inR list.length 1 3), H) := by
  have hw := w.1
  apply loop_up
  · rw [j65_2]
    simp only [lnL_list, List.length_map, bI_lss, Int.lt_irrefl, decide_false, Option.bind_some, asB_bool, cond_false, List.drop_length, List.all_nil, Bool.true_and]
    rw [pure_call (ts := [.int .i64 list.length, .int .i64 1, .int .i64 3]) (by simp) (c66 _ _ _)]
    simp
  · intro i hi ih
    have hlt : ((i : Nat) : Int) < (list.length : Int) := by omega
    rw [j65_2, List.drop_eq_getElem_cons hi, List.all_cons]
    simp only [lnL_list, List.length_map, bI_lss, hlt, decide_true, Option.bind_some, asB_bool, cond_true]
    rw [show bld [.sl0, .sl0, .sl0, .sl0] [(0, 1, false), (1, 1, false), (2, 1, false), (3, 1, false)] [(0, .list (list.map SLoader.row))] = some (.agg [.list (list.map SLoader.row), .sl0, .sl0, .sl0]) from rfl]
    simp only [Option.bind_some]
    rw [ia_loader (n := (i : Int)) (by omega) (by omega)]
    simp only [Option.bind_some, ld_el, Int.toNat_natCast, show part (list[i]).row (0, 3, true) = some (list[i]).d from rfl]
    rw [pure_call (ts := [.agg [.list (list.map SLoader.row), .list [], .list [], .list []], (list[i]).d]) (by simp [SLoader.readD]) (c114 list w.1 _ (w.2 _ (List.getElem_mem hi)))]
    simp only [Option.bind_some, unOp_not, asB_bool]
    cases loaderOk list[i] list.length with
    | false => rfl
    | true =>
      simp only [Bool.not_true, cond_false, bI_add, Option.bind_some, Bool.true_and]
      rw [wrap_i64 (n := (i : Int) + 1) (by omega) (by omega)]
      exact ih
theorem c65 (list : List SLoader) (w : LoadersWf list) : run E (exec E) false 65 [.list (list.map SLoader.row)] = some (.bool (loadersOk list)) := by
  rw [run_ent, e65, show D.int .i64 0 = D.int .i64 ((0 : Nat) : Int) from rfl, c65_2 list w [] 0 (by omega)]
  simp only [Option.bind_some, readT_bool, List.drop_zero, loadersOk, Bool.and_comm]
theorem c25 (list : List SLoader) (w : LoadersWf list) (k : Int) (n : List UInt8) (hn : n.length ≤ 140737488351232) : run E (exec E) false 25 [.list (list.map SLoader.row), .int .i64 k, .str n] = some (.bool (asksM list k n)) := by
  have hw := w.1
  rw [run_ent, e25, pure_call (ts := [.list (list.map SLoader.row)]) (by simp) (c65 list w)]
  simp only [Option.bind_some, asB_bool, asksM]
  cases loadersOk list with
  | false => rfl
  | true =>
    simp only [cond_true, Bool.true_and, lnL_list, List.length_map, Option.bind_some, bI_sub]
    rw [wrap_i64 (n := (list.length : Int) - 1) (by omega) (by omega)]
    rw [pure_call (ts := [.int .i64 k, .int .i64 0, .int .i64 ((list.length : Int) - 1)]) (by simp) (c66 _ _ _)]
    simp only [Option.bind_some, asB_bool]
    cases inR k 0 (list.length - 1) with
    | false => rfl
    | true =>
      simp only [cond_true, Bool.true_and]
      rw [str_call (c67 n hn)]
      simp only [Option.bind_some, asB_bool]
      cases nameOk n with
      | false => rfl
      | true =>
        simp only [cond_true, Bool.true_and]
        rw [str_call (c68 n)]
        simp only [Option.bind_some, bI_lss, built_neg, ret_one, readT_bool]
theorem next_way {l : SLoader} {n : List UInt8} (hw : ∀ w ∈ l.Ways, 0 ≤ w.To) : (0 ≤ wayTo l n ∧ nextM l n = (wayTo l n, false)) ∨ (wayTo l n < 0 ∧ nextM l n = if l.Files.any (fileNamed n) = true then (-1, true) else (l.Parent, false)) := by
  unfold wayTo nextM
  cases hf : l.Ways.find? (wayNamed n) with
  | some w => exact .inl ⟨hw w (List.mem_of_find?_eq_some hf), rfl⟩
  | none => exact .inr ⟨by decide, rfl⟩
theorem c26_2 (list : List SLoader) (w : LoadersWf list) (hok : loadersOk list = true) (n : List UInt8) : ∀ (k : Nat) (out : List Int) (loader : Int) (d : D) (H : Heap), free out ≤ k → k ≤ 3 → out.length + k ≤ 3 → 0 ≤ loader → loader ≤ list.length - 1 → Acc 1 H d (out.map rInt) → ∃ d' H', J E 26 2 [.list (list.map SLoader.row), .int .i64 loader, .str n, d] H = some (.tup [d', .bool (pathGo list n (k + 1) out loader).2], H') ∧ Acc 1 H' d' ((pathGo list n (k + 1) out loader).1.map rInt)
  | k, out, loader, d, H, hk, hk3, hout, hl0, hl1, hA => by
    have hlen := loadersOk_len hok
    rw [j26_2, pathGo]
    rw [pure_call (ts := [.list (out.map rInt), .int .i64 loader]) (by simp [hA.read9 (int_plain _) true]) (c69 out (by omega) loader)]
    simp only [Option.bind_some, asB_bool, hl0, true_and]
    by_cases hm : loader ∈ out
    · simp only [hm, decide_true, cond_true, not_true, if_false, ret_two]
      exact ⟨_, _, rfl, hA⟩
    · have hlt : loader.toNat < list.length := by omega
      have hwl := w.2 _ (List.getElem_mem hlt)
      have hok1 := loaderOk_get hok (List.getElem_mem hlt)
      have hnx := next_rng (by omega) hok1 n
      have hpr := loaderOk_parent hok1
      have hways := loaderOk_ways hok1
      simp only [hm, decide_false, cond_false, not_false_eq_true, if_true, List.getElem?_eq_getElem hlt]
      rw [bsl_one (esz := 1) (by omega) rfl rfl rfl]
      simp only [Option.bind_some]
      obtain ⟨d', H', h5, h6, h7⟩ := app_one (eb := 8) (c := rInt loader) hA rfl (by simp [maxLen]; omega)
      rw [show (D.int .i64 loader).cells = rInt loader from rfl, h5]
      simp only [Option.bind_some]
      rw [ia_loader hl0 hlt]
      simp only [Option.bind_some, ld_el, show part (list[loader.toNat]).row (0, 3, true) = some (list[loader.toNat]).d from rfl]
      generalize list[loader.toNat] = l at *
      rw [alloc_eq _ _ _ rfl, put_loc (z := 3) H' [.sl0, .sl0, .int .i64 0] l.row rfl rfl rfl]
      have hb : getBlk (H' ++ [some [l.row]]) H'.length = some [l.row] := getBlk_self _ _ []
      have ll : ld true 3 (H' ++ [some [l.row]]) (.ptr H'.length 0 0) = some l.d := by rw [ld_ptr hb rfl]; rfl
      have l2 : ld false 1 (H' ++ [some [l.row]]) (.ptr H'.length 0 (0 + 2)) = some (.int .i64 l.Parent) := by rw [ld_ptr hb rfl]; rfl
      have h6' : Acc 1 (H' ++ [some [l.row]]) d' ((out ++ [loader]).map rInt) := by simpa using h6.app _
      generalize hG : H' ++ [some [l.row]] = G at *
      simp only [Option.bind_some, ll]
      rw [pure_call (ts := [l.d, .str n]) (by simp [SLoader.readD]) (c70 l hwl n)]
      simp only [Option.bind_some, bI_lss, asB_bool]
      have hf := free_step hl0 (show loader < 3 by omega) hm
      have go : ∀ x : Int, -1 ≤ x → x ≤ list.length - 1 → ∃ d2 H2, J E 26 11 [.list (list.map SLoader.row), .str n, d', .int .i64 x] G = some (.tup [d2, .bool (pathGo list n k (out ++ [loader]) x).2], H2) ∧ Acc 1 H2 d2 ((pathGo list n k (out ++ [loader]) x).1.map rInt) := by
        intro x hx0 hx1
        rw [j26_11]
        simp only [bI_lss, Option.bind_some, asB_bool]
        cases k with
        | zero => omega
        | succ k =>
          by_cases hx : x < 0
          · have : pathGo list n (k + 1) (out ++ [loader]) x = (out ++ [loader], false) := by
              rw [pathGo, if_neg (fun h => by omega)]
            rw [this]
            simp only [hx, decide_true, cond_true, ret_two]
            exact ⟨_, _, rfl, h6'⟩
          · simp only [hx, decide_false, cond_false]
            exact c26_2 list w hok n k (out ++ [loader]) x d' G (by omega) (by omega) (by simp; omega) (by omega) hx1 h6'
      rcases next_way (l := l) (n := n) (fun w hw => (hways w hw).1) with ⟨g1, g2⟩ | ⟨g1, g2⟩
      · rw [g2] at hnx ⊢
        simp only [show ¬ wayTo l n < 0 by omega, decide_false, cond_false, Bool.false_eq_true, if_false]
        exact go _ hnx.1 hnx.2
      · rw [g2]
        simp only [g1, decide_true, cond_true, ll, Option.bind_some]
        rw [pure_call (ts := [l.d, .str n]) (by simp [SLoader.readD]) (c71 l hwl n)]
        simp only [Option.bind_some, bI_geq, idxM_any, asB_bool, bI_lss, g1, decide_true, cond_true, fa_ptr, l2]
        cases l.Files.any (fileNamed n) with
        | true =>
          simp only [cond_true, if_true, ret_two]
          exact ⟨_, _, rfl, h6'⟩
        | false =>
          simp only [cond_false, Bool.false_eq_true, if_false]
          exact go _ hpr.1 hpr.2
theorem c26 (list : List SLoader) (w : LoadersWf list) (hok : loadersOk list = true) (n : List UInt8) (loader : Int) (hl : 0 ≤ loader ∧ loader ≤ list.length - 1) : run E (exec E) true 26 [.list (list.map SLoader.row), .int .i64 loader, .str n] = some (.tup [.list ((pathM list n loader).1.map rInt), .bool (pathM list n loader).2]) := by
  rw [run_ent, e26, bsl_zero _ _ _ rfl]
  simp only [Option.bind_some]
  obtain ⟨d', H', e, hA⟩ := c26_2 list w hok n 3 [] loader .sl0 [] (by simp [free]) (by omega) (by simp) hl.1 hl.2 (Acc.nil _ _)
  rw [e]
  simp only [Option.bind_some, readT_tup9, optAll_cons, optAll_nil, readT_bool, hA.read (int_plain _) true 7, Option.map_some]
  rfl
theorem c7 (list : List SLoader) (w : LoadersWf list) (loader : Int) (n : List UInt8) (hn : n.length ≤ 140737488351232) : run E (exec E) true 7 [.list (list.map SLoader.row), .int .i64 loader, .str n] = some (.list ((pathOfM list loader n).map rInt)) := by
  rw [run_ent, e7, pure_call (ts := [.list (list.map SLoader.row), .int .i64 loader, .str n]) (by simp) (c25 list w loader n hn)]
  simp only [Option.bind_some, unOp_not, asB_bool, pathOfM]
  cases ha : asksM list loader n with
  | false => rfl
  | true =>
    obtain ⟨hok, hl⟩ := asks_ok ha
    simp only [Bool.not_true, cond_false, if_true, call_view, optAll_cons, optAll_nil, readT_list9, readT_int, readT_str, Option.bind_some]
    rw [c26 list w hok n loader hl]
    simp only [Option.bind_some, extract_tup, List.getElem?_cons_zero, List.getElem?_cons_succ, unOp_not, asB_bool]
    cases (pathM list n loader).2 with
    | false => rfl
    | true => rfl
end Go.Ev.Ytmljkoieihaomaa
