/- Contracts. -/
import Derived.Test.YtmljkoieihaomaaC2A3
namespace Go.Ev.Ytmljkoieihaomaa
set_option linter.unusedVariables false
set_option linter.unusedSimpArgs false
open Go.Ev
/-! The library's functions over slices. -/
def idxFrom {α : Type} (p : α → Bool) : Nat → List α → Int
  | _, [] => -1
  | i, x :: r => if p x = true then (i : Int) else idxFrom p (i + 1) r
def idxM {α : Type} (p : α → Bool) (l : List α) : Int := idxFrom p 0 l
theorem idxFrom_spec {α : Type} (p : α → Bool) : ∀ (i : Nat) (l : List α), (idxFrom p i l = -1 ∧ l.any p = false) ∨ ∃ k, ∃ h : k < l.length, idxFrom p i l = ((i + k : Nat) : Int) ∧ p l[k] = true ∧ l.find? p = some l[k] ∧ l.any p = true
  | _, [] => .inl ⟨rfl, rfl⟩
  | i, x :: r => by
    by_cases hx : p x = true
    · exact .inr ⟨0, by simp, by simp [idxFrom, hx], hx, by simp [hx], by simp [hx]⟩
    · have hx' : p x = false := by simpa using hx
      rcases idxFrom_spec p (i + 1) r with ⟨h1, h2⟩ | ⟨k, h0, h1, h2, h3, h4⟩
      · exact .inl ⟨by simp [idxFrom, hx', h1], by simp [hx', h2]⟩
      · exact .inr ⟨k + 1, by simp [h0], by simp [idxFrom, hx', h1]; omega, by simpa using h2, by simp [hx', h3], by simp [hx', h4]⟩
theorem idxM_spec {α : Type} (p : α → Bool) (l : List α) : (idxM p l = -1 ∧ l.any p = false ∧ l.find? p = none) ∨ ∃ k, ∃ h : k < l.length, idxM p l = (k : Int) ∧ p l[k] = true ∧ l.find? p = some l[k] ∧ l.any p = true := by
  rcases idxFrom_spec p 0 l with ⟨h1, h2⟩ | ⟨k, h0, h1, h2, h3, h4⟩
  · refine .inl ⟨h1, h2, ?_⟩
    rw [List.find?_eq_none]
    intro x hx e
    rw [List.any_eq_false] at h2
    exact h2 x hx e
  · exact .inr ⟨k, h0, by simpa [idxM] using h1, h2, h3, h4⟩
theorem idxM_any {α : Type} (p : α → Bool) (l : List α) : decide (0 ≤ idxM p l) = l.any p := by
  rcases idxM_spec p l with ⟨h1, h2, -⟩ | ⟨k, h0, h1, h2, h3, h4⟩
  · rw [h1, h2]; rfl
  · rw [h1, h4]; simp
theorem idxM_len {α : Type} (p : α → Bool) (l : List α) : -1 ≤ idxM p l ∧ idxM p l < l.length := by
  rcases idxM_spec p l with ⟨h1, h2⟩ | ⟨k, h0, h1, h2, h3, h4⟩ <;> rw [h1] <;> omega
theorem c122_2 (l : List Int) (hl : l.length ≤ 140737488351232) (v : Int) (H : Heap) : ∀ i, i ≤ l.length → J E 122 2 [.list (l.map rInt), (.int .i64 v), .int .i64 l.length, .int .i64 i] H = some (.int .i64 (idxFrom (fun x => decide (v = x)) i (l.drop i)), H) := by
  apply loop_up
  · rw [j122_2]
    simp only [bI_lss, Int.lt_irrefl, decide_false, Option.bind_some, asB_bool, cond_false, List.drop_length, idxFrom, ret_one]
  · intro i hi ih
    have hlt : ((i : Nat) : Int) < (l.length : Int) := by omega
    rw [j122_2, List.drop_eq_getElem_cons hi, idxFrom]
    simp only [bI_lss, hlt, decide_true, Option.bind_some, asB_bool, cond_true]
    rw [ia_list (n := (i : Int)) (esz := 1) (by omega) (by simpa using hi) (by simp [rInt])]
    simp only [Option.bind_some, ld_el, Int.toNat_natCast, List.getElem_map, show part (rInt (l[i])) (0, 1, false) = some (.int .i64 l[i]) from rfl, bI_eql, asB_bool, decide_eq_true_eq]
    by_cases hp : v = l[i]
    · simp only [hp, decide_true, cond_true, if_true, ret_one]
    · simp only [hp, decide_false, cond_false, if_false, bI_add, Option.bind_some]
      rw [wrap_i64 (n := (i : Int) + 1) (by omega) (by omega)]
      exact ih
theorem c122 (l : List Int) (hl : l.length ≤ 140737488351232) (v : Int) : run E (exec E) false 122 [.list (l.map rInt), (.int .i64 v)] = some (.int .i64 (idxM (fun x => decide (v = x)) l)) := by
  rw [run_ent, e122]
  simp only [lnL_list, List.length_map, Option.bind_some]
  rw [show D.int .i64 0 = D.int .i64 ((0 : Nat) : Int) from rfl, c122_2 l hl v [] 0 (by omega)]
  simp [idxM]
theorem c78 (l : List Int) (hl : l.length ≤ 140737488351232) (v : Int) : run E (exec E) false 78 [.list (l.map rInt), (.int .i64 v)] = some (.bool (decide (v ∈ l))) := by
  rw [run_ent, e78, pure_call (ts := [.list (l.map rInt), (.int .i64 v)]) (by simp) (c122 l hl v)]
  simp only [Option.bind_some, bI_geq, idxM_any, ret_one, readT_bool]
  congr 2
  rw [Bool.eq_iff_iff]
  simp
theorem c151_2 (l : List SFile) (hl : l.length ≤ 140737488351232) (g : FuncId) (cs : List D) (p : SFile → Bool) (H : Heap) (hg : ∀ x ∈ l, ∀ K, ∃ K', callFn E (exec E) (modeT 151 g) g ([(x).d] ++ cs) (H ++ K) = some (.bool (p x), H ++ K')) : ∀ i, i ≤ l.length → ∀ K, ∃ K', J E 151 2 [.list (l.map SFile.row), .fn g cs, .int .i64 l.length, .int .i64 i] (H ++ K) = some (.int .i64 (idxFrom p i (l.drop i)), H ++ K') := by
  apply loop_up
  · intro K
    rw [j151_2]
    simp only [bI_lss, Int.lt_irrefl, decide_false, Option.bind_some, asB_bool, cond_false, List.drop_length, idxFrom]
    exact ⟨_, rfl⟩
  · intro i hi ih K
    have hlt : ((i : Nat) : Int) < (l.length : Int) := by omega
    obtain ⟨K1, e1⟩ := hg l[i] (List.getElem_mem hi) K
    rw [j151_2, List.drop_eq_getElem_cons hi, idxFrom]
    simp only [bI_lss, hlt, decide_true, Option.bind_some, asB_bool, cond_true]
    rw [ia_list (n := (i : Int)) (esz := 2) (by omega) (by simpa using hi) (by simp [SFile.row])]
    simp only [Option.bind_some, ld_el, Int.toNat_natCast, List.getElem_map, show part (SFile.row (l[i])) (0, 2, true) = some (l[i]).d from rfl, asFn_fn, e1, asB_bool]
    cases hp : p l[i] with
    | true => exact ⟨_, rfl⟩
    | false =>
      simp only [cond_false, bI_add, Option.bind_some]
      rw [wrap_i64 (n := (i : Int) + 1) (by omega) (by omega)]
      exact ih K1
theorem c151 (l : List SFile) (hl : l.length ≤ 140737488351232) (g : FuncId) (cs : List D) (p : SFile → Bool) (H : Heap) (hg : ∀ x ∈ l, ∀ K, ∃ K', callFn E (exec E) (modeT 151 g) g ([(x).d] ++ cs) (H ++ K) = some (.bool (p x), H ++ K')) : ∃ K', ent E 151 [.list (l.map SFile.row), .fn g cs] H = some (.int .i64 (idxM p l), H ++ K') := by
  obtain ⟨K', e⟩ := c151_2 l hl g cs p H hg 0 (by omega) []
  rw [List.append_nil] at e
  rw [e151]
  simp only [lnL_list, List.length_map, Option.bind_some]
  exact ⟨K', e⟩
theorem c147 (l : List SFile) (hl : l.length ≤ 140737488351232) (g : FuncId) (cs : List D) (p : SFile → Bool) (H : Heap) (hg : ∀ x ∈ l, ∀ K, ∃ K', callFn E (exec E) (modeT 151 g) g ([(x).d] ++ cs) (H ++ K) = some (.bool (p x), H ++ K')) : ∃ K', ent E 147 [.list (l.map SFile.row), .fn g cs] H = some (.bool (l.any p), H ++ K') := by
  obtain ⟨K', e⟩ := c151 l hl g cs p H hg
  rw [e147]
  simp only [call_raw, e, Option.bind_some, bI_geq, idxM_any]
  exact ⟨K', rfl⟩
theorem c149_2 (l : List SWay) (hl : l.length ≤ 140737488351232) (g : FuncId) (cs : List D) (p : SWay → Bool) (H : Heap) (hg : ∀ x ∈ l, ∀ K, ∃ K', callFn E (exec E) (modeT 149 g) g ([(x).d] ++ cs) (H ++ K) = some (.bool (p x), H ++ K')) : ∀ i, i ≤ l.length → ∀ K, ∃ K', J E 149 2 [.list (l.map SWay.row), .fn g cs, .int .i64 l.length, .int .i64 i] (H ++ K) = some (.int .i64 (idxFrom p i (l.drop i)), H ++ K') := by
  apply loop_up
  · intro K
    rw [j149_2]
    simp only [bI_lss, Int.lt_irrefl, decide_false, Option.bind_some, asB_bool, cond_false, List.drop_length, idxFrom]
    exact ⟨_, rfl⟩
  · intro i hi ih K
    have hlt : ((i : Nat) : Int) < (l.length : Int) := by omega
    obtain ⟨K1, e1⟩ := hg l[i] (List.getElem_mem hi) K
    rw [j149_2, List.drop_eq_getElem_cons hi, idxFrom]
    simp only [bI_lss, hlt, decide_true, Option.bind_some, asB_bool, cond_true]
    rw [ia_list (n := (i : Int)) (esz := 2) (by omega) (by simpa using hi) (by simp [SWay.row])]
    simp only [Option.bind_some, ld_el, Int.toNat_natCast, List.getElem_map, show part (SWay.row (l[i])) (0, 2, true) = some (l[i]).d from rfl, asFn_fn, e1, asB_bool]
    cases hp : p l[i] with
    | true => exact ⟨_, rfl⟩
    | false =>
      simp only [cond_false, bI_add, Option.bind_some]
      rw [wrap_i64 (n := (i : Int) + 1) (by omega) (by omega)]
      exact ih K1
theorem c149 (l : List SWay) (hl : l.length ≤ 140737488351232) (g : FuncId) (cs : List D) (p : SWay → Bool) (H : Heap) (hg : ∀ x ∈ l, ∀ K, ∃ K', callFn E (exec E) (modeT 149 g) g ([(x).d] ++ cs) (H ++ K) = some (.bool (p x), H ++ K')) : ∃ K', ent E 149 [.list (l.map SWay.row), .fn g cs] H = some (.int .i64 (idxM p l), H ++ K') := by
  obtain ⟨K', e⟩ := c149_2 l hl g cs p H hg 0 (by omega) []
  rw [List.append_nil] at e
  rw [e149]
  simp only [lnL_list, List.length_map, Option.bind_some]
  exact ⟨K', e⟩
theorem c146_2 (l : List SLoader) (hl : l.length ≤ 140737488351232) (g : FuncId) (cs : List D) (p : SLoader → Bool) (H : Heap) (hg : ∀ x ∈ l, ∀ K, ∃ K', callFn E (exec E) (modeT 146 g) g ([(x).d] ++ cs) (H ++ K) = some (.bool (p x), H ++ K')) : ∀ i, i ≤ l.length → ∀ K, ∃ K', J E 146 2 [.list (l.map SLoader.row), .fn g cs, .int .i64 l.length, .int .i64 i] (H ++ K) = some (.int .i64 (idxFrom p i (l.drop i)), H ++ K') := by
  apply loop_up
  · intro K
    rw [j146_2]
    simp only [bI_lss, Int.lt_irrefl, decide_false, Option.bind_some, asB_bool, cond_false, List.drop_length, idxFrom]
    exact ⟨_, rfl⟩
  · intro i hi ih K
    have hlt : ((i : Nat) : Int) < (l.length : Int) := by omega
    obtain ⟨K1, e1⟩ := hg l[i] (List.getElem_mem hi) K
    rw [j146_2, List.drop_eq_getElem_cons hi, idxFrom]
    simp only [bI_lss, hlt, decide_true, Option.bind_some, asB_bool, cond_true]
    rw [ia_list (n := (i : Int)) (esz := 3) (by omega) (by simpa using hi) (by simp [SLoader.row])]
    simp only [Option.bind_some, ld_el, Int.toNat_natCast, List.getElem_map, show part (SLoader.row (l[i])) (0, 3, true) = some (l[i]).d from rfl, asFn_fn, e1, asB_bool]
    cases hp : p l[i] with
    | true => exact ⟨_, rfl⟩
    | false =>
      simp only [cond_false, bI_add, Option.bind_some]
      rw [wrap_i64 (n := (i : Int) + 1) (by omega) (by omega)]
      exact ih K1
theorem c146 (l : List SLoader) (hl : l.length ≤ 140737488351232) (g : FuncId) (cs : List D) (p : SLoader → Bool) (H : Heap) (hg : ∀ x ∈ l, ∀ K, ∃ K', callFn E (exec E) (modeT 146 g) g ([(x).d] ++ cs) (H ++ K) = some (.bool (p x), H ++ K')) : ∃ K', ent E 146 [.list (l.map SLoader.row), .fn g cs] H = some (.int .i64 (idxM p l), H ++ K') := by
  obtain ⟨K', e⟩ := c146_2 l hl g cs p H hg 0 (by omega) []
  rw [List.append_nil] at e
  rw [e146]
  simp only [lnL_list, List.length_map, Option.bind_some]
  exact ⟨K', e⟩
theorem c119 (l : List SLoader) (hl : l.length ≤ 140737488351232) (g : FuncId) (cs : List D) (p : SLoader → Bool) (H : Heap) (hg : ∀ x ∈ l, ∀ K, ∃ K', callFn E (exec E) (modeT 146 g) g ([(x).d] ++ cs) (H ++ K) = some (.bool (p x), H ++ K')) : ∃ K', ent E 119 [.list (l.map SLoader.row), .fn g cs] H = some (.bool (l.any p), H ++ K') := by
  obtain ⟨K', e⟩ := c146 l hl g cs p H hg
  rw [e119]
  simp only [call_raw, e, Option.bind_some, bI_geq, idxM_any]
  exact ⟨K', rfl⟩
end Go.Ev.Ytmljkoieihaomaa
