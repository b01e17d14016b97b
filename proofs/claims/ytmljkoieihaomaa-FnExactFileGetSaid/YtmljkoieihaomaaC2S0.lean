/- Contracts. -/
import Derived.Test.YtmljkoieihaomaaC2A3
namespace Go.Ev.Ytmljkoieihaomaa
set_option linter.unusedVariables false
set_option linter.unusedSimpArgs false
open Go.Ev
/-! The library's functions over slices. -/
def idxFrom {α : Type} (p : α → Bool) : Nat → List α → Int
  | _, [] => -1
  | i, x :: r => if p x = true then (i : Int) else idxFrom p (i + 1) r
def idxM {α : Type} (p : α → Bool) (l : List α) : Int := idxFrom p 0 l
theorem idxFrom_spec {α : Type} (p : α → Bool) : ∀ (i : Nat) (l : List α), (idxFrom p i l = -1 ∧ l.any p = false) ∨ ∃ k, ∃ h : k < l.length, idxFrom p i l = ((i + k : Nat) : Int) ∧ p l[k] = true ∧ l.find? p = some l[k] ∧ l.any p = true
  | _, [] => .inl ⟨rfl, rfl⟩
  | i, x :: r => by
    by_cases hx : p x = true
    · exact .inr ⟨0, by simp, by simp [idxFrom, hx], hx, by simp [hx], by simp [hx]⟩
    · have hx' : p x = false := by simpa using hx
      rcases idxFrom_spec p (i + 1) r with ⟨h1, h2⟩ | ⟨k, h0, h1, h2, h3, h4⟩
      · exact .inl ⟨by simp [idxFrom, hx', h1], by simp [hx', h2]⟩
      · exact .inr ⟨k + 1, by simp [h0], by simp [idxFrom, hx', h1]; omega, by simpa using h2, by simp [hx', h3], by simp [hx', h4]⟩
theorem idxM_spec {α : Type} (p : α → Bool) (l : List α) : (idxM p l = -1 ∧ l.any p = false ∧ l.find? p = none) ∨ ∃ k, ∃ h : k < l.length, idxM p l = (k : Int) ∧ p l[k] = true ∧ l.find? p = some l[k] ∧ l.any p = true := by
  rcases idxFrom_spec p 0 l with ⟨h1, h2⟩ | ⟨k, h0, h1, h2, h3, h4⟩
  · refine .inl ⟨h1, h2, ?_⟩
    rw [List.find?_eq_none]
    intro x hx e
    rw [List.any_eq_false] at h2
    exact h2 x hx e
  · exact .inr ⟨k, h0, by simpa [idxM] using h1, h2, h3, h4⟩
theorem idxM_any {α : Type} (p : α → Bool) (l : List α) : decide (0 ≤ idxM p l) = l.any p := by
  rcases idxM_spec p l with ⟨h1, h2, -⟩ | ⟨k, h0, h1, h2, h3, h4⟩
  · rw [h1, h2]; rfl
  · rw [h1, h4]; simp
theorem idxM_len {α : Type} (p : α → Bool) (l : List α) : -1 ≤ idxM p l ∧ idxM p l < l.length := by
  rcases idxM_spec p l with ⟨h1, h2⟩ | ⟨k, h0, h1, h2, h3, h4⟩ <;> rw [h1] <;> omega
end Go.Ev.Ytmljkoieihaomaa
