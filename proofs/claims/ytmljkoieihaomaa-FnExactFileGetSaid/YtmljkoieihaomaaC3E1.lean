/- Contracts. -/
import Derived.Test.YtmljkoieihaomaaC3E0
namespace Go.Ev.Ytmljkoieihaomaa
set_option linter.unusedVariables false
set_option linter.unusedSimpArgs false
open Go.Ev
/-! Paths. -/
theorem files_wf {l : SLoader} (w : l.wf) : l.Files.length ≤ 140737488351232 := w.1.1
def pathGo (list : List SLoader) (n : List UInt8) : Nat → List Int → Int → List Int × Bool
  | 0, out, _ => (out, false)
  | k + 1, out, loader => if 0 ≤ loader ∧ loader ∉ out then
      match list[loader.toNat]? with
      | some l => if (nextM l n).2 = true then (out ++ [loader], true) else pathGo list n k (out ++ [loader]) (nextM l n).1
      | none => (out, false)
    else (out, false)
def pathM (list : List SLoader) (n : List UInt8) (loader : Int) : List Int × Bool := pathGo list n 4 [] loader
def pathOfM (list : List SLoader) (loader : Int) (n : List UInt8) : List Int := if asksM list loader n = true then (if (pathM list n loader).2 = true then (pathM list n loader).1 else []) else []
def makerM (list : List SLoader) (loader : Int) (n : List UInt8) : Int := ((pathOfM list loader n).getLast?).getD (-1)
def sameM (list : List SLoader) (a b : Int) (n : List UInt8) : Bool := decide (0 ≤ makerM list a n) && decide (makerM list a n = makerM list b n)
def free (out : List Int) : Nat := (if (0 : Int) ∈ out then 0 else 1) + (if (1 : Int) ∈ out then 0 else 1) + (if (2 : Int) ∈ out then 0 else 1)
theorem free_step {out : List Int} {x : Int} (h0 : 0 ≤ x) (h1 : x < 3) (hx : x ∉ out) : free (out ++ [x]) < free out := by
  have hm : ∀ y : Int, y ∈ out ++ [x] ↔ y ∈ out ∨ y = x := fun y => by simp
  unfold free
  simp only [hm]
  have h3 : x = 0 ∨ x = 1 ∨ x = 2 := by omega
  rcases h3 with e | e | e
  · subst e; simp [hx]
  · subst e; simp [hx]
  · subst e; simp [hx]
theorem waysOk_to {all : List SWay} {many : Int} : ∀ {i : Nat} {l : List SWay}, waysOk all many i l = true → ∀ w ∈ l, 0 ≤ w.To ∧ w.To ≤ many - 1
  | _, [], _, w, hw => by cases hw
  | i, v :: r, h, w, hw => by
    simp only [waysOk, Bool.and_eq_true] at h
    rcases List.mem_cons.mp hw with e | hw
    · subst e
      have := h.2.1
      simpa [inR] using this
    · exact waysOk_to h.2.2.2 w hw
theorem loaderOk_get {list : List SLoader} (h : loadersOk list = true) {l : SLoader} (hl : l ∈ list) : loaderOk l list.length = true := by
  simp only [loadersOk, Bool.and_eq_true, List.all_eq_true] at h
  exact h.2 l hl
theorem loadersOk_len {list : List SLoader} (h : loadersOk list = true) : 1 ≤ list.length ∧ list.length ≤ 3 := by
  simp only [loadersOk, Bool.and_eq_true, inR, decide_eq_true_eq] at h
  omega
theorem loaderOk_ways {l : SLoader} {many : Int} (h : loaderOk l many = true) : ∀ w ∈ l.Ways, 0 ≤ w.To ∧ w.To ≤ many - 1 := by
  simp only [loaderOk, Bool.and_eq_true] at h
  exact waysOk_to h.2.2.2.2
theorem loaderOk_parent {l : SLoader} {many : Int} (h : loaderOk l many = true) : -1 ≤ l.Parent ∧ l.Parent ≤ many - 1 := by
  simp only [loaderOk, Bool.and_eq_true, inR, decide_eq_true_eq] at h
  exact h.2.2.1
theorem next_rng {l : SLoader} {many : Int} (hm : 0 ≤ many) (h : loaderOk l many = true) (n : List UInt8) : -1 ≤ (nextM l n).1 ∧ (nextM l n).1 ≤ many - 1 := by
  have h1 := loaderOk_ways h
  have h2 := loaderOk_parent h
  unfold nextM
  cases hf : l.Ways.find? (wayNamed n) with
  | some w =>
    have := h1 w (List.mem_of_find?_eq_some hf)
    simp only
    omega
  | none =>
    simp only
    split
    · simp only; omega
    · simp only; omega
theorem free_pos {out : List Int} {x : Int} (h0 : 0 ≤ x) (h1 : x < 3) (hx : x ∉ out) : 0 < free out := by have := free_step h0 h1 hx; omega
theorem int_plain (out : List Int) : plainRows (out.map rInt) := fun r hr l n H => by obtain ⟨x, _, rfl⟩ := List.mem_map.mp hr; simp [rInt]
theorem asks_ok {list : List SLoader} {k : Int} {n : List UInt8} (h : asksM list k n = true) : loadersOk list = true ∧ 0 ≤ k ∧ k ≤ list.length - 1 := by
  simp only [asksM, Bool.and_eq_true, inR, decide_eq_true_eq] at h
  exact ⟨h.1, h.2.1⟩
theorem pathGo_in {list : List SLoader} {n : List UInt8} : ∀ (k : Nat) (out : List Int) (x : Int), (∀ y ∈ out, 0 ≤ y ∧ y ≤ 9223372036854775807) → x ≤ 9223372036854775807 → (∀ l ∈ list, (nextM l n).1 ≤ 9223372036854775807) → (pathGo list n k out x).1.length ≤ out.length + k
  | 0, out, x, h, hx, hn => by simp [pathGo]
  | k + 1, out, x, h, hx, hn => by
    rw [pathGo]
    split
    · rename_i hc
      split
      · rename_i l hl
        split
        · simp
        · have := pathGo_in k (out ++ [x]) (nextM l n).1 (fun y hy => by rcases List.mem_append.mp hy with hy | hy; exact h y hy; simp at hy; omega) (hn l (List.mem_of_getElem? hl)) hn
          simp at this; omega
      · simp
    · simp
theorem pathOf_len {list : List SLoader} {loader : Int} {n : List UInt8} : (pathOfM list loader n).length ≤ 4 := by
  unfold pathOfM
  split
  · rename_i ha
    obtain ⟨hok, hl⟩ := asks_ok ha
    have h3 := loadersOk_len hok
    split
    · have := pathGo_in (list := list) (n := n) 4 [] loader (by simp) (by omega) (fun l hl => by have := next_rng (by omega) (loaderOk_get hok hl) n; omega)
      simpa [pathM] using this
    · simp
  · simp
theorem last_ia {l : List Int} {H : Heap} (hl : l.length ≤ 140737488351232) (hne : l ≠ []) : (ia 1 H (.list (l.map rInt)) (.int .i64 ((l.length : Int) - 1))).bind (fun v => ld false 1 H v) = some (.int .i64 (l.getLast?.getD (-1))) := by
  have hp : 0 < l.length := List.length_pos_iff.mpr hne
  rw [ia_list (n := (l.length : Int) - 1) (esz := 1) (by omega) (by simp; omega) (by simp [rInt])]
  simp only [Option.bind_some, ld_el, List.getElem_map, show ∀ x, part (rInt x) (0, 1, false) = some (.int .i64 x) from fun x => rfl]
  rw [List.getLast?_eq_getElem?, List.getElem?_eq_getElem (by omega)]
  simp only [Option.getD_some]
  congr 3
  omega
end Go.Ev.Ytmljkoieihaomaa
