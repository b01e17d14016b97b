/- Contracts. -/
import Derived.Test.YtmljkoieihaomaaC4C5
namespace Go.Ev.Ytmljkoieihaomaa
set_option linter.unusedVariables false
set_option linter.unusedSimpArgs false
open Go.Ev
/-! Small classes, and classes that are the same: the program's way. -/
def smF (f : SFrame) : Bool := decide (f.Locals.length ≤ 8) && decide (f.Stack.length ≤ 8)
def smM (m : SMethod) : Bool := decide (m.Code.length ≤ 120) && (decide (m.Traps.length ≤ 3) && (decide (m.Frames.length ≤ 8) && m.Frames.all smF))
def smC (c : SClass) : Bool := decide (c.Pool.length ≤ 60) && (decide (c.Faces.length ≤ 3) && (decide (c.Fields.length ≤ 5) && (decide (c.Methods.length ≤ 6) && (c.Pool.all (fun x => decide (x.Text.length ≤ 255)) && c.Methods.all smM))))
theorem smC_of {c : SClass} (h : smallC c) : smC c = true := by
  obtain ⟨h1, h2, h3, h4, h5, h6⟩ := h
  simp only [smC, h1, h2, h3, h4, decide_true, Bool.true_and, Bool.and_eq_true, List.all_eq_true, decide_eq_true_eq]
  refine ⟨h5, fun m hm => ?_⟩
  obtain ⟨m1, m2, m3, m4⟩ := h6 m hm
  simp only [smM, m1, m2, m3, decide_true, Bool.true_and, List.all_eq_true]
  intro f hf
  simp [smF, m4 f hf]
theorem gtr_not {n : Nat} {m : Nat} : decide ((m : Int) < (n : Int)) = !decide (n ≤ m) := by
  rw [Bool.eq_iff_iff]; simp <;> omega
theorem feq (a b : SFrame) : decide (a = b) = (decide (a.At = b.At) && (decide (a.Locals = b.Locals) && decide (a.Stack = b.Stack))) := by
  rw [Bool.eq_iff_iff]; cases a; cases b; simp
end Go.Ev.Ytmljkoieihaomaa
