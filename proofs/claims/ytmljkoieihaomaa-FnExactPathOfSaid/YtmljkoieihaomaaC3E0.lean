/- Contracts. -/
import Derived.Test.YtmljkoieihaomaaC3D0
namespace Go.Ev.Ytmljkoieihaomaa
set_option linter.unusedVariables false
set_option linter.unusedSimpArgs false
open Go.Ev
/-! Loaders. -/
theorem less_total : ∀ a b : List UInt8, (Op.bytesLess b a || b == a) = !Op.bytesLess a b
  | [], [] => rfl
  | [], _ :: _ => rfl
  | _ :: _, [] => rfl
  | a :: x, b :: y => by
    have ih := less_total x y
    simp only [Op.bytesLess]
    have e1 : (b :: y == a :: x) = (b == a && y == x) := rfl
    rw [e1]
    by_cases h : a = b
    · subst h
      have : ¬ a < a := UInt8.lt_irrefl a
      simpa [this] using ih
    · rcases UInt8.lt_or_lt_of_ne h with h1 | h1
      · have h2 : ¬ b < a := fun h2 => absurd (UInt8.lt_trans h1 h2) (UInt8.lt_irrefl _)
        have h3 : ¬ b = a := fun e => h e.symm
        simp [h1, h2, h3]
      · have h2 : ¬ a < b := fun h2 => absurd (UInt8.lt_trans h1 h2) (UInt8.lt_irrefl _)
        simp [h1, h2, h]
theorem slL_to {esz : Nat} {H : Heap} {rows : Rows} {n : Int} (h0 : 0 ≤ n) (h1 : n ≤ rows.length) (hf : rowsFit esz rows = true) : slL esz H (.list rows) none (some (.int .i64 n)) none = some (.list (rows.take n.toNat)) := by
  simp [slL, bound, h0, h1, hf]
def isFirstM (n : List UInt8) : Bool := decide (n = [79, 98, 106]) || decide (n = [69, 114, 114])
theorem c77 (s : List UInt8) : run E (exec E) false 77 [.str s] = some (.bool (isFirstM s)) := by
  rw [run_ent, e77]
  simp only [bS_eql, Option.bind_some, asB_bool, isFirstM]
  by_cases h : s = [79, 98, 106] <;> simp [h]
def builtM (n : List UInt8) : Int := if n = [79, 98, 106] then 0 else if n = [69, 114, 114] then 1 else -1
theorem c68 (s : List UInt8) : run E (exec E) false 68 [.str s] = some (.int .i64 (builtM s)) := by
  rw [run_ent, e68]
  simp only [bS_eql, Option.bind_some, asB_bool, builtM]
  by_cases h : s = [79, 98, 106]
  · simp [h]
  · by_cases h2 : s = [69, 114, 114] <;> simp [h, h2]
theorem built_first (s : List UInt8) : decide (0 ≤ builtM s) = isFirstM s := by
  unfold builtM isFirstM
  by_cases h : s = [79, 98, 106]
  · simp [h]
  · by_cases h2 : s = [69, 114, 114] <;> simp [h, h2]
theorem built_neg (s : List UInt8) : decide (builtM s < 0) = !isFirstM s := by
  rw [← built_first, ← decide_not]
  congr 1
  simp
def fileNamed (n : List UInt8) (f : SFile) : Bool := decide (f.Name = n)
def wayNamed (n : List UInt8) (w : SWay) : Bool := decide (w.Name = n)
def filesOk (all : List SFile) : Nat → List SFile → Bool
  | _, [] => true
  | i, f :: r => nameOk f.Name && (!(isFirstM f.Name) && (decide (f.Text.length ≤ 900) && (!((all.take i).any (fileNamed f.Name)) && filesOk all (i + 1) r)))
def wayLt (all : List SWay) (i : Nat) (w : SWay) : Bool := match i with
  | 0 => true
  | k + 1 => match all[k]? with
    | some v => Op.bytesLess v.Name w.Name
    | none => true
def waysOk (all : List SWay) (many : Int) : Nat → List SWay → Bool
  | _, [] => true
  | i, w :: r => nameOk w.Name && (inR w.To 0 (many - 1) && (wayLt all i w && waysOk all many (i + 1) r))
def loaderOk (l : SLoader) (many : Int) : Bool := decide (l.Files.length ≤ 5) && (decide (l.Ways.length ≤ 4) && (inR l.Parent (-1) (many - 1) && (filesOk l.Files 0 l.Files && waysOk l.Ways many 0 l.Ways)))
def loadersOk (list : List SLoader) : Bool := inR list.length 1 3 && list.all fun l => loaderOk l list.length
abbrev LoadersWf (list : List SLoader) : Prop := list.length ≤ 140737488351232 ∧ ∀ x ∈ list, x.wf
theorem ia_file {l : List SFile} {H : Heap} {n : Int} (h0 : 0 ≤ n) (h1 : n.toNat < l.length) : ia 2 H (.list (l.map SFile.row)) (.int .i64 n) = some (.el (l[n.toNat]).row 0) := by
  rw [ia_list h0 (by simpa using h1) (by simp)]; simp
theorem ia_way {l : List SWay} {H : Heap} {n : Int} (h0 : 0 ≤ n) (h1 : n.toNat < l.length) : ia 2 H (.list (l.map SWay.row)) (.int .i64 n) = some (.el (l[n.toNat]).row 0) := by
  rw [ia_list h0 (by simpa using h1) (by simp)]; simp
theorem ia_loader {l : List SLoader} {H : Heap} {n : Int} (h0 : 0 ≤ n) (h1 : n.toNat < l.length) : ia 3 H (.list (l.map SLoader.row)) (.int .i64 n) = some (.el (l[n.toNat]).row 0) := by
  rw [ia_list h0 (by simpa using h1) (by simp)]; simp
theorem put_loc {z : Nat} (H : Heap) (row : List D) (r : List D) (hr : row.length = z) (hl : r.length = z) (hc : r.all D.isCell = true) : st z (H ++ [some [row]]) (.ptr H.length 0 0) (.agg r) = some (H ++ [some [r]]) := by
  rw [st_loc (z := z) H row [] 0 (.agg r) hl hc (by omega)]
  simp [List.drop_of_length_le (show row.length ≤ z by omega)]; rfl
theorem ld_in {H : Heap} {b : Nat} {row : List D} (h : getBlk H b = some [row]) (K : Heap) (f : Nat) : ld false 1 (H ++ K) (.ptr b 0 (0 + f)) = row[0 + f]? := by rw [ld_ptr (getBlk_app h) rfl]; rfl
theorem ld_in0 {H : Heap} {b : Nat} {row : List D} (h : getBlk H b = some [row]) (f : Nat) : ld false 1 H (.ptr b 0 (0 + f)) = row[0 + f]? := by rw [ld_ptr h rfl]; rfl
theorem ld_at {H : Heap} {b : Nat} {row : List D} (h : getBlk H b = some [row]) (K : Heap) : ld false 1 (H ++ K) (.ptr b 0 0) = row[0]? := by rw [ld_ptr (getBlk_app h) rfl]; rfl
theorem ld_all {H : Heap} {b z : Nat} {row : List D} (h : getBlk H b = some [row]) (hz : row.length = z) (K : Heap) : ld true z (H ++ K) (.ptr b 0 0) = some (.agg row) := by
  rw [ld_ptr (getBlk_app h) rfl, part_agg, if_pos (by omega)]
  simp [← hz]
theorem c148 (x : SFile) (H : Heap) (b : Nat) (row : List D) (n : List UInt8) (h : getBlk H b = some [row]) (hr : row[0]? = some (.str n)) (K : Heap) : ∃ K', ent E 148 [x.d, .ptr b 0 0] (H ++ K) = some (.bool (fileNamed n x), H ++ K') := by
  rw [e148, alloc_eq _ _ _ rfl]
  simp only [fa_ptr, Option.bind_some, ld_loc, List.append_assoc, ld_in h, hr, Nat.zero_add]
  have : ld false 1 (H ++ K ++ [some [D.cells x.d]]) (.ptr (H ++ K).length 0 0) = some (.str x.Name) := by rw [ld_loc]; rfl
  rw [List.append_assoc] at this
  rw [this]
  have h2 := ld_at h (K ++ [some [D.cells x.d]])
  rw [h2, hr]
  simp only [Option.bind_some, bS_eql, ret_one, fileNamed]
  exact ⟨_, rfl⟩
theorem c121_12 (l : SLoader) (w : l.wf) (many : Int) (hm : 0 ≤ many ∧ many ≤ 140737488351232) (H : Heap) (h : getBlk H 0 = some [l.row]) (i : Nat) (hi : i < l.Ways.length) (K : Heap) (b : Nat) (hb : getBlk (H ++ K) b = some [(l.Ways[i]).row]) (v : Bool) (nx : ∃ K', J E 121 10 [.int .i64 many, .ptr 0 0 0, .list (l.Ways.map SWay.row), .int .i64 l.Ways.length, .int .i64 ((i + 1 : Nat) : Int)] (H ++ K) = some (.bool v, H ++ K')) :
    ∃ K', J E 121 12 [.int .i64 many, .ptr 0 0 0, .int .i64 i, .ptr b 0 0, .list (l.Ways.map SWay.row), .int .i64 l.Ways.length, .int .i64 i] (H ++ K) = some (.bool (nameOk (l.Ways[i]).Name && (inR (l.Ways[i]).To 0 (many - 1) && (wayLt l.Ways i l.Ways[i] && v))), H ++ K') := by
  obtain ⟨⟨w1, w2⟩, ⟨w3, w4⟩, w5⟩ := w
  have wx := w4 _ (List.getElem_mem hi)
  generalize hx : l.Ways[i] = x at *
  rw [j121_12]
  have r0 : x.row[0 + 0]? = some (.str x.Name) := rfl
  have r1 : x.row[0 + 1]? = some (.int .i64 x.To) := rfl
  have m1 : l.row[0 + 1]? = some (.list (l.Ways.map SWay.row)) := rfl
  simp only [fa_ptr, Option.bind_some, ld_in0 hb, r0, r1]
  rw [str_call (c76 _ wx.1)]
  simp only [Option.bind_some, unOp_not, asB_bool]
  cases hn : nameOk x.Name with
  | false => exact ⟨K, rfl⟩
  | true =>
    simp only [Bool.not_true, cond_false, ld_in0 hb, r1, Option.bind_some, bI_sub, Bool.true_and]
    rw [wrap_i64 (n := many - 1) (by omega) (by omega)]
    rw [pure_call (ts := [.int .i64 x.To, .int .i64 0, .int .i64 (many - 1)]) (by simp) (c118 _ _ _)]
    simp only [Option.bind_some, unOp_not, asB_bool]
    cases hr : inR x.To 0 (many - 1) with
    | false => exact ⟨K, rfl⟩
    | true =>
      simp only [Bool.not_true, cond_false, bI_gtr, Option.bind_some, asB_bool, Bool.true_and, bI_add]
      rw [wrap_i64 (n := (i : Int) + 1) (by omega) (by omega)]
      cases i with
      | zero =>
        simp only [Int.natCast_zero, Int.lt_irrefl, decide_false, cond_false, wayLt, Bool.true_and]
        exact nx
      | succ k =>
        have hgt : (0 : Int) < ((k + 1 : Nat) : Int) := by omega
        simp only [hgt, decide_true, cond_true, ld_in h, m1, Option.bind_some, bI_sub]
        rw [wrap_i64 (n := ((k + 1 : Nat) : Int) - 1) (by omega) (by omega), show ((k + 1 : Nat) : Int) - 1 = (k : Int) by omega]
        rw [ia_way (n := (k : Int)) (by omega) (by omega)]
        simp only [Option.bind_some, fa_el, ld_el, Int.toNat_natCast, show part (l.Ways[k]).row (0 + 0, 1, false) = some (.str (l.Ways[k]).Name) from rfl, ld_in0 hb, r0]
        rw [show bS .geq (.str (l.Ways[k]).Name) (.str x.Name) = some (.bool (!Op.bytesLess (l.Ways[k]).Name x.Name)) from rfl]
        simp only [Option.bind_some, asB_bool, wayLt, List.getElem?_eq_getElem (show k < l.Ways.length by omega)]
        cases hl : Op.bytesLess (l.Ways[k]).Name x.Name with
        | false => exact ⟨K, rfl⟩
        | true =>
          simp only [Bool.not_true, cond_false, Bool.true_and]
          exact nx
theorem c121_10 (l : SLoader) (w : l.wf) (many : Int) (hm : 0 ≤ many ∧ many ≤ 140737488351232) (H : Heap) (h : getBlk H 0 = some [l.row]) : ∀ i, i ≤ l.Ways.length → ∀ K, ∃ K', J E 121 10 [.int .i64 many, .ptr 0 0 0, .list (l.Ways.map SWay.row), .int .i64 l.Ways.length, .int .i64 i] (H ++ K) = some (.bool (waysOk l.Ways many i (l.Ways.drop i)), H ++ K') := by
  have w3 := w.2.1.1
  apply loop_up
  · intro K
    rw [j121_10]
    simp only [bI_lss, Int.lt_irrefl, decide_false, Option.bind_some, asB_bool, cond_false, List.drop_length, waysOk]
    exact ⟨K, rfl⟩
  · intro i hi ih K
    have hlt : ((i : Nat) : Int) < (l.Ways.length : Int) := by omega
    rw [j121_10, List.drop_eq_getElem_cons hi, waysOk]
    simp only [bI_lss, hlt, decide_true, Option.bind_some, asB_bool, cond_true]
    rw [ia_way (n := (i : Int)) (by omega) (by omega)]
    simp only [Option.bind_some, ld_el, Int.toNat_natCast, show part (l.Ways[i]).row (0, 2, true) = some (l.Ways[i]).d from rfl]
    rw [alloc_eq _ _ _ rfl, put_loc (z := 2) (H ++ K) [.str [], .int .i64 0] (l.Ways[i]).row rfl rfl rfl]
    simp only [Option.bind_some]
    rw [List.append_assoc]
    have hb : getBlk (H ++ (K ++ [some [(l.Ways[i]).row]])) (H ++ K).length = some [(l.Ways[i]).row] := by rw [← List.append_assoc]; exact getBlk_self _ _ []
    exact c121_12 l w many hm H h i hi _ _ hb _ (ih _)
theorem c121_4 (l : SLoader) (w : l.wf) (many : Int) (hm : 0 ≤ many ∧ many ≤ 140737488351232) (H : Heap) (h : getBlk H 0 = some [l.row]) : ∀ i, i ≤ l.Files.length → ∀ K, ∃ K', J E 121 4 [.int .i64 many, .ptr 0 0 0, .list (l.Files.map SFile.row), .int .i64 l.Files.length, .int .i64 i] (H ++ K) = some (.bool (filesOk l.Files i (l.Files.drop i) && waysOk l.Ways many 0 l.Ways), H ++ K') := by
  have m0 : l.row[0 + 0]? = some (.list (l.Files.map SFile.row)) := rfl
  have m1 : l.row[0 + 1]? = some (.list (l.Ways.map SWay.row)) := rfl
  have w0 := w
  obtain ⟨⟨w1, w2⟩, ⟨w3, w4⟩, w5⟩ := w
  apply loop_up
  · intro K
    rw [j121_4]
    simp only [bI_lss, Int.lt_irrefl, decide_false, Option.bind_some, asB_bool, cond_false, List.drop_length, filesOk, fa_ptr, ld_in h, m1, lnL_list, List.length_map, Bool.true_and]
    exact c121_10 l w0 many hm H h 0 (by omega) K
  · intro i hi ih K
    have hlt : ((i : Nat) : Int) < (l.Files.length : Int) := by omega
    have wx := w2 _ (List.getElem_mem hi)
    rw [j121_4, List.drop_eq_getElem_cons hi, filesOk]
    simp only [bI_lss, hlt, decide_true, Option.bind_some, asB_bool, cond_true]
    rw [ia_file (n := (i : Int)) (by omega) (by omega)]
    simp only [Option.bind_some, ld_el, Int.toNat_natCast, show part (l.Files[i]).row (0, 2, true) = some (l.Files[i]).d from rfl]
    rw [alloc_eq _ _ _ rfl, put_loc (z := 2) (H ++ K) [.str [], .str []] (l.Files[i]).row rfl rfl rfl]
    simp only [Option.bind_some]
    generalize l.Files[i] = x at wx
    have hb : getBlk (H ++ K ++ [some [x.row]]) (H ++ K).length = some [x.row] := getBlk_self _ _ []
    have r0 : x.row[0 + 0]? = some (.str x.Name) := rfl
    have r1 : x.row[0 + 1]? = some (.str x.Text) := rfl
    simp only [fa_ptr, Option.bind_some, ld_in0 hb, r0, r1]
    rw [str_call (c76 _ wx.1)]
    simp only [Option.bind_some, unOp_not, asB_bool]
    cases hn : nameOk x.Name with
    | false => exact ⟨K ++ [some [x.row]], by simp⟩
    | true =>
      simp only [Bool.not_true, cond_false, ld_in0 hb, r0, Option.bind_some]
      rw [str_call (c77 _)]
      simp only [Option.bind_some, asB_bool]
      cases hf : isFirstM x.Name with
      | true => exact ⟨K ++ [some [x.row]], by simp⟩
      | false =>
        simp only [cond_false, ld_in0 hb, r1, Option.bind_some, lnS_str, bI_gtr, asB_bool]
        by_cases ht : x.Text.length ≤ 900
        · have l0 : ld false 1 (H ++ K ++ [some [x.row]]) (.ptr 0 0 (0 + 0)) = some (.list (l.Files.map SFile.row)) := by rw [List.append_assoc, ld_in h, m0]
          simp only [show ¬ (900 : Int) < x.Text.length by omega, decide_false, cond_false, l0, Option.bind_some]
          rw [slL_to (by omega) (by simp; omega) (by cases hq : l.Files <;> simp [rowsFit])]
          simp only [Option.bind_some, Int.toNat_natCast, call_raw, ← List.map_take]
          obtain ⟨K', e⟩ := c147 (l.Files.take i) (by simp; omega) 148 [.ptr (H ++ K).length 0 0] (fileNamed x.Name) (H ++ K ++ [some [x.row]]) (fun y hy K2 => c148 y _ _ _ x.Name hb rfl K2)
          rw [e]
          simp only [Option.bind_some, asB_bool]
          have hh : H ++ K ++ [some [x.row]] ++ K' = H ++ (K ++ [some [x.row]] ++ K') := by simp
          rw [hh]
          cases ha : (l.Files.take i).any (fileNamed x.Name) with
          | true => exact ⟨_, by simp; rfl⟩
          | false =>
            simp only [cond_false, bI_add, Option.bind_some, ht, decide_true, Bool.not_false, Bool.true_and]
            rw [wrap_i64 (n := (i : Int) + 1) (by omega) (by omega)]
            exact ih _
        · simp only [show (900 : Int) < x.Text.length by omega, decide_true, cond_true, ht, decide_false]
          exact ⟨K ++ [some [x.row]], by simp⟩
theorem c121 (l : SLoader) (w : l.wf) (many : Int) (hm : 0 ≤ many ∧ many ≤ 140737488351232) : run E (exec E) false 121 [l.d, .int .i64 many] = some (.bool (loaderOk l many)) := by
  have w0 := w
  obtain ⟨⟨w1, w2⟩, ⟨w3, w4⟩, w5⟩ := w
  have h : getBlk ([some [l.row]] : Heap) 0 = some [l.row] := rfl
  have m0 : l.row[0 + 0]? = some (.list (l.Files.map SFile.row)) := rfl
  have m1 : l.row[0 + 1]? = some (.list (l.Ways.map SWay.row)) := rfl
  have m2 : l.row[0 + 2]? = some (.int .i64 l.Parent) := rfl
  rw [run_ent, e121, alloc_eq _ _ _ rfl]
  rw [show ([] : Heap) ++ [some [D.cells l.d]] = [some [l.row]] from rfl, show ([] : Heap).length = 0 from rfl]
  simp only [fa_ptr, Option.bind_some, ld_in0 h, m0, m1, m2, lnL_list, List.length_map, bI_gtr, asB_bool, loaderOk]
  by_cases h1 : l.Files.length ≤ 5
  · simp only [h1, show ¬ (5 : Int) < l.Files.length by omega, decide_false, cond_false, decide_true, Bool.true_and, ld_in0 h, m0, m1, m2, lnL_list, List.length_map, Option.bind_some, bI_gtr, asB_bool]
    by_cases h2 : l.Ways.length ≤ 4
    · simp only [h2, show ¬ (4 : Int) < l.Ways.length by omega, decide_false, cond_false, decide_true, Bool.true_and, bI_sub, Option.bind_some]
      rw [wrap_i64 (n := many - 1) (by omega) (by omega)]
      rw [pure_call (ts := [.int .i64 l.Parent, .int .i64 (-1), .int .i64 (many - 1)]) (by simp) (c118 _ _ _)]
      simp only [Option.bind_some, unOp_not, asB_bool]
      cases hr : inR l.Parent (-1) (many - 1) with
      | false => rfl
      | true =>
        simp only [Bool.not_true, cond_false, ld_in0 h, m0, lnL_list, List.length_map, Option.bind_some, Bool.true_and]
        obtain ⟨K', e⟩ := c121_4 l w0 many hm [some [l.row]] h 0 (by omega) []
        simp only [List.append_nil, Int.natCast_zero] at e
        rw [e]
        rfl
    · simp [h2, show (4 : Int) < l.Ways.length by omega]
  · simp [h1, show (5 : Int) < l.Files.length by omega]
theorem c120 (list : List SLoader) (hl : list.length ≤ 140737488351232) (l : SLoader) (w : l.wf) (H : Heap) (b : Nat) (h : getBlk H b = some [[.list (list.map SLoader.row)]]) (K : Heap) : ∃ K', ent E 120 [l.d, .ptr b 0 0] (H ++ K) = some (.bool (!loaderOk l list.length), H ++ K') := by
  rw [e120, alloc_eq _ _ _ rfl]
  rw [show ld true 3 (H ++ K ++ [some [D.cells l.d]]) (.ptr (H ++ K).length 0 0) = some l.d from by rw [ld_loc]; rfl, List.append_assoc, ld_at h]
  simp only [Option.bind_some, List.getElem?_cons_zero, lnL_list, List.length_map]
  rw [pure_call (ts := [l.d, .int .i64 list.length]) (by simp [SLoader.readD]) (c121 l w _ (by omega))]
  exact ⟨_, rfl⟩
theorem c74 (list : List SLoader) (w : LoadersWf list) : run E (exec E) false 74 [.list (list.map SLoader.row)] = some (.bool (loadersOk list)) := by
  have h : getBlk ([some [[.list (list.map SLoader.row)]]] : Heap) 0 = some [[.list (list.map SLoader.row)]] := rfl
  rw [run_ent, e74, alloc_eq _ _ _ rfl]
  rw [show ([] : Heap) ++ [some [D.cells (.list (list.map SLoader.row))]] = [some [[.list (list.map SLoader.row)]]] from rfl, show ([] : Heap).length = 0 from rfl]
  have l0 : ld false 1 [some [[D.list (list.map SLoader.row)]]] (.ptr 0 0 0) = some (.list (list.map SLoader.row)) := rfl
  simp only [l0, Option.bind_some, lnL_list, List.length_map]
  rw [pure_call (ts := [.int .i64 list.length, .int .i64 1, .int .i64 3]) (by simp) (c118 _ _ _)]
  simp only [Option.bind_some, asB_bool, loadersOk]
  cases hr : inR list.length 1 3 with
  | false => rfl
  | true =>
    simp only [cond_true, l0, Option.bind_some, call_raw, Bool.true_and]
    obtain ⟨K', e⟩ := c119 list w.1 120 [.ptr 0 0 0] (fun l => !loaderOk l list.length) [some [[.list (list.map SLoader.row)]]] (fun y hy K2 => c120 list w.1 y (w.2 y hy) _ _ h K2)
    rw [e]
    simp only [Option.bind_some, unOp_not, ret_one, readT_bool, List.any_eq_not_all_not, Bool.not_not]
theorem c75 (list : List SLoader) (hl : list.length ≤ 140737488351232) (k : Int) : run E (exec E) false 75 [.list (list.map SLoader.row), .int .i64 k] = some (.bool (inR k 0 (list.length - 1))) := by
  rw [run_ent, e75]
  simp only [lnL_list, List.length_map, Option.bind_some, bI_sub]
  rw [wrap_i64 (n := (list.length : Int) - 1) (by omega) (by omega)]
  rw [pure_call (ts := [.int .i64 k, .int .i64 0, .int .i64 ((list.length : Int) - 1)]) (by simp) (c118 _ _ _)]
  simp
def asksM (list : List SLoader) (k : Int) (n : List UInt8) : Bool := loadersOk list && (inR k 0 (list.length - 1) && (nameOk n && !isFirstM n))
theorem c28 (list : List SLoader) (w : LoadersWf list) (k : Int) (n : List UInt8) (hn : n.length ≤ 140737488351232) : run E (exec E) false 28 [.list (list.map SLoader.row), .int .i64 k, .str n] = some (.bool (asksM list k n)) := by
  rw [run_ent, e28, pure_call (ts := [.list (list.map SLoader.row)]) (by simp) (c74 list w)]
  simp only [Option.bind_some, asB_bool, asksM]
  cases loadersOk list with
  | false => rfl
  | true =>
    simp only [cond_true, Bool.true_and]
    rw [pure_call (ts := [.list (list.map SLoader.row), .int .i64 k]) (by simp) (c75 list w.1 k)]
    simp only [Option.bind_some, asB_bool]
    cases inR k 0 (list.length - 1) with
    | false => rfl
    | true =>
      simp only [cond_true, Bool.true_and]
      rw [str_call (c76 n hn)]
      simp only [Option.bind_some, asB_bool]
      cases nameOk n with
      | false => rfl
      | true =>
        simp only [cond_true, Bool.true_and]
        rw [str_call (c77 n)]
        simp
/-! Who is asked next. -/
def nextM (l : SLoader) (n : List UInt8) : Int × Bool := match l.Ways.find? (wayNamed n) with
  | some w => (w.To, false)
  | none => if l.Files.any (fileNamed n) = true then (-1, true) else (l.Parent, false)
theorem c150 (x : SWay) (H : Heap) (b : Nat) (n : List UInt8) (h : getBlk H b = some [[.str n]]) (K : Heap) : ∃ K', ent E 150 [x.d, .ptr b 0 0] (H ++ K) = some (.bool (wayNamed n x), H ++ K') := by
  rw [e150, alloc_eq _ _ _ rfl]
  simp only [fa_ptr, Option.bind_some]
  rw [show ld false 1 (H ++ K ++ [some [D.cells x.d]]) (.ptr (H ++ K).length 0 (0 + 0)) = some (.str x.Name) from by rw [ld_loc]; rfl, List.append_assoc, ld_at h]
  simp only [List.getElem?_cons_zero, Option.bind_some, bS_eql, ret_one, wayNamed]
  exact ⟨_, rfl⟩
theorem c152 (x : SFile) (H : Heap) (b : Nat) (n : List UInt8) (h : getBlk H b = some [[.str n]]) (K : Heap) : ∃ K', ent E 152 [x.d, .ptr b 0 0] (H ++ K) = some (.bool (fileNamed n x), H ++ K') := by
  rw [e152, alloc_eq _ _ _ rfl]
  simp only [fa_ptr, Option.bind_some]
  rw [show ld false 1 (H ++ K ++ [some [D.cells x.d]]) (.ptr (H ++ K).length 0 (0 + 0)) = some (.str x.Name) from by rw [ld_loc]; rfl, List.append_assoc, ld_at h]
  simp only [List.getElem?_cons_zero, Option.bind_some, bS_eql, ret_one, fileNamed]
  exact ⟨_, rfl⟩
theorem c123 (l : SLoader) (w : l.wf) (n : List UInt8) : run E (exec E) false 123 [l.d, .str n] = some (.int .i64 (idxM (wayNamed n) l.Ways)) := by
  rw [run_ent, e123, alloc_eq _ _ _ rfl, alloc_eq _ _ _ rfl]
  have h : getBlk ([some [l.row], some [[.str n]]] : Heap) 1 = some [[.str n]] := rfl
  obtain ⟨K', e⟩ := c149 l.Ways w.2.1.1 150 [.ptr 1 0 0] (wayNamed n) [some [l.row], some [[.str n]]] (fun y hy K2 => c150 y _ _ n h K2)
  rw [show fa 1 (.ptr ([] : Heap).length 0 0) = some (.ptr 0 0 1) from rfl]
  simp only [Option.bind_some]
  rw [show ld false 1 ([] ++ [some [D.cells l.d]] ++ [some [D.cells (.str n)]]) (.ptr 0 0 1) = some (.list (l.Ways.map SWay.row)) from rfl]
  simp only [Option.bind_some, call_raw]
  rw [show ([] ++ [some [D.cells l.d]] ++ [some [D.cells (.str n)]] : Heap) = [some [l.row], some [[.str n]]] from rfl, show ([] ++ [some [D.cells l.d]] : Heap).length = 1 from rfl, e]
  simp
theorem c124 (l : SLoader) (w : l.wf) (n : List UInt8) : run E (exec E) false 124 [l.d, .str n] = some (.int .i64 (idxM (fileNamed n) l.Files)) := by
  rw [run_ent, e124, alloc_eq _ _ _ rfl, alloc_eq _ _ _ rfl]
  have h : getBlk ([some [l.row], some [[.str n]]] : Heap) 1 = some [[.str n]] := rfl
  obtain ⟨K', e⟩ := c151 l.Files w.1.1 152 [.ptr 1 0 0] (fileNamed n) [some [l.row], some [[.str n]]] (fun y hy K2 => c152 y _ _ n h K2)
  rw [show fa 0 (.ptr ([] : Heap).length 0 0) = some (.ptr 0 0 0) from rfl]
  simp only [Option.bind_some]
  rw [show ld false 1 ([] ++ [some [D.cells l.d]] ++ [some [D.cells (.str n)]]) (.ptr 0 0 0) = some (.list (l.Files.map SFile.row)) from rfl]
  simp only [Option.bind_some, call_raw]
  rw [show ([] ++ [some [D.cells l.d]] ++ [some [D.cells (.str n)]] : Heap) = [some [l.row], some [[.str n]]] from rfl, show ([] ++ [some [D.cells l.d]] : Heap).length = 1 from rfl, e]
  simp
theorem c79 (l : SLoader) (w : l.wf) (n : List UInt8) : run E (exec E) false 79 [l.d, .str n] = some (.tup [.int .i64 (nextM l n).1, .bool (nextM l n).2]) := by
  rw [run_ent, e79, alloc_eq _ _ _ rfl]
  rw [show ([] : Heap) ++ [some [D.cells l.d]] = [some [l.row]] from rfl, show ([] : Heap).length = 0 from rfl]
  have l0 : ld true 3 [some [l.row]] (.ptr 0 0 0) = some l.d := rfl
  have l1 : ld false 1 [some [l.row]] (.ptr 0 0 (0 + 1)) = some (.list (l.Ways.map SWay.row)) := rfl
  have l2 : ld false 1 [some [l.row]] (.ptr 0 0 (0 + 2)) = some (.int .i64 l.Parent) := rfl
  simp only [l0, Option.bind_some]
  rw [pure_call (ts := [l.d, .str n]) (by simp [SLoader.readD]) (c123 l w n)]
  simp only [Option.bind_some, bI_geq, asB_bool, nextM]
  rcases idxM_spec (wayNamed n) l.Ways with ⟨h1, h2, h3⟩ | ⟨k, h0, h1, h2, h3, h4⟩
  · simp only [h1, h3, show ¬ (0 : Int) ≤ -1 by decide, decide_false, cond_false, l0, Option.bind_some]
    rw [pure_call (ts := [l.d, .str n]) (by simp [SLoader.readD]) (c124 l w n)]
    simp only [Option.bind_some, bI_geq, asB_bool, idxM_any]
    cases l.Files.any (fileNamed n) with
    | true => rfl
    | false =>
      simp only [cond_false, fa_ptr, l2, Option.bind_some]
      rfl
  · have hk : (0 : Int) ≤ (k : Int) := by omega
    simp only [h1, h3, hk, decide_true, cond_true, fa_ptr, l1, Option.bind_some]
    rw [ia_way hk (by omega)]
    rfl

end Go.Ev.Ytmljkoieihaomaa
