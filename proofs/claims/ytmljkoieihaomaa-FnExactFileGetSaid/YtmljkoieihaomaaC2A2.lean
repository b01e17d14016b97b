/- Contracts. -/
import Derived.Test.YtmljkoieihaomaaC2A1
namespace Go.Ev.Ytmljkoieihaomaa
set_option linter.unusedVariables false
set_option linter.unusedSimpArgs false
open Go.Ev
def bump (out : List Int) (x : SLine) : List Int := if inR x.Op 0 34 then out.set x.Op.toNat (out.getD x.Op.toNat 0 + 1) else out
def traceMost (l : List SLine) : List Int := l.foldl bump (List.replicate 35 0)
def Few (out : List Int) (n : Nat) : Prop := out.length = 35 ∧ ∀ v ∈ out, 0 ≤ v ∧ v ≤ n
theorem few_bump {out : List Int} {n : Nat} (h : Few out n) (x : SLine) : Few (bump out x) (n + 1) := by
  obtain ⟨h1, h2⟩ := h
  unfold bump
  split
  · rename_i hr
    refine ⟨by simpa using h1, fun v hv => ?_⟩
    rcases List.mem_or_eq_of_mem_set hv with hv | rfl
    · have := h2 v hv; omega
    · have hlt : x.Op.toNat < out.length := by simp [inR] at hr; omega
      rw [List.getD_eq_getElem?_getD, List.getElem?_eq_getElem hlt]
      have := h2 _ (List.getElem_mem hlt)
      simp; omega
  · exact ⟨h1, fun v hv => by have := h2 v hv; omega⟩
theorem fewGo : ∀ (l : List SLine) (out : List Int) (n : Nat), Few out n → Few (l.foldl bump out) (n + l.length)
  | [], out, n, h => by simpa using h
  | x :: l, out, n, h => by
    have := fewGo l (bump out x) (n + 1) (few_bump h x)
    simp only [List.foldl_cons, List.length_cons]
    rwa [show n + (l.length + 1) = n + 1 + l.length by omega]
theorem few0 : Few (List.replicate 35 0) 0 := ⟨by simp, fun v hv => by simp at hv; omega⟩
theorem traceMost_few (l : List SLine) : Few (traceMost l) l.length := by
  have := fewGo l _ _ few0
  simpa [traceMost] using this
end Go.Ev.Ytmljkoieihaomaa
