/- Contracts. -/
import Derived.Test.YtmljkoieihaomaaC3E1
namespace Go.Ev.Ytmljkoieihaomaa
set_option linter.unusedVariables false
set_option linter.unusedSimpArgs false
open Go.Ev
/-! Loaders and paths: the other way. -/
def wayTo (l : SLoader) (n : List UInt8) : Int := match l.Ways.find? (wayNamed n) with | some w => w.To | none => -1
def tailOk (l : SLoader) (many : Int) : Bool := decide (l.Files.length ≤ 5) && (decide (l.Ways.length ≤ 4) && inR l.Parent (-1) (many - 1))
theorem any_drop {α : Type} (p : α → Bool) (l : List α) {k i : Nat} (hk : k < i) (hi : i ≤ l.length) : ((l.take i).drop k).any p = (p (l[k]'(by omega)) || ((l.take i).drop (k + 1)).any p) := by
  rw [List.drop_eq_getElem_cons (show k < (l.take i).length by simp; omega)]
  simp
theorem next_way {l : SLoader} {n : List UInt8} (hw : ∀ w ∈ l.Ways, 0 ≤ w.To) : (0 ≤ wayTo l n ∧ nextM l n = (wayTo l n, false)) ∨ (wayTo l n < 0 ∧ nextM l n = if l.Files.any (fileNamed n) = true then (-1, true) else (l.Parent, false)) := by
  unfold wayTo nextM
  cases hf : l.Ways.find? (wayNamed n) with
  | some w => exact .inl ⟨hw w (List.mem_of_find?_eq_some hf), rfl⟩
  | none => exact .inr ⟨by decide, rfl⟩
end Go.Ev.Ytmljkoieihaomaa
