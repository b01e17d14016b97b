/- Contracts. -/
import Derived.Test.YtmljkoieihaomaaC4C7
namespace Go.Ev.Ytmljkoieihaomaa
set_option linter.unusedVariables false
set_option linter.unusedSimpArgs false
open Go.Ev
/-! What is read, for the laws. -/
theorem szL_le {α : Type} {f : α → Nat} {m : Nat} : ∀ {l : List α}, (∀ x ∈ l, f x ≤ m) → szL f l ≤ l.length * (1 + m)
  | [], _ => by simp [szL]
  | x :: l, h => by
    have h1 := h x (by simp)
    have h2 := szL_le (l := l) fun y hy => h y (by simp [hy])
    have e : (l.length + 1) * (1 + m) = l.length * (1 + m) + (1 + m) := by rw [Nat.add_mul]; omega
    simp only [szL, List.map_cons, List.sum_cons, List.length_cons] at h2 ⊢
    rw [e]; omega
theorem szL_up {α : Type} {f : α → Nat} {m n : Nat} {l : List α} (h : ∀ x ∈ l, f x ≤ m) (hn : l.length ≤ n) : szL f l ≤ n * (1 + m) :=
  Nat.le_trans (szL_le h) (Nat.mul_le_mul_right _ hn)
theorem small_sz {c : SClass} (h : smallC c) : c.sz ≤ 100000 := by
  obtain ⟨h1, h2, h3, h4, h5, h6⟩ := h
  have k1 := szL_up (f := SConst.sz) (m := 255) (fun x hx => by simpa [SConst.sz] using h5 x hx) h1
  have k2 := szL_up (f := fun _ => 0) (m := 0) (l := c.Faces) (fun x hx => Nat.le_refl _) h2
  have k3 := szL_up (f := fun _ => 0) (m := 0) (l := c.Fields) (fun x hx => Nat.le_refl _) h3
  have k4 := szL_up (f := SMethod.sz) (m := 1000) (l := c.Methods) (fun x hx => by
    obtain ⟨m1, m2, m3, m4⟩ := h6 x hx
    have j1 := szL_up (f := fun _ => 0) (m := 0) (l := x.Traps) (fun x hx => Nat.le_refl _) m2
    have j2 := szL_up (f := SFrame.sz) (m := 16) (l := x.Frames) (fun f hf => by
      obtain ⟨n1, n2⟩ := m4 f hf
      have i1 := szL_up (f := fun _ => 0) (m := 0) (l := f.Locals) (fun x hx => Nat.le_refl _) n1
      have i2 := szL_up (f := fun _ => 0) (m := 0) (l := f.Stack) (fun x hx => Nat.le_refl _) n2
      simp only [SFrame.sz]; omega) m3
    simp only [SMethod.sz]; omega) h4
  simp only [SClass.sz]; omega
theorem class_fit {c : SClass} (w : c.wf) : c.fit := by
  obtain ⟨⟨w1, -⟩, -, -, -, ⟨w2, -⟩, ⟨w3, -⟩, ⟨w4, w5⟩⟩ := w
  exact ⟨w1, w2, w3, w4, fun z hz => ⟨(w5 z hz).2.2.2.2.2.2.1.1, (w5 z hz).2.2.2.2.2.2.2.1, fun f hf => ⟨((w5 z hz).2.2.2.2.2.2.2.2 f hf).2.1.1, ((w5 z hz).2.2.2.2.2.2.2.2 f hf).2.2.1⟩⟩⟩
theorem fileRes_fit (s : List UInt8) : ((fileGet s).getD {}).fit ∧ ((fileGet s).getD {}).sz ≤ 100000 := by
  cases h : fileGet s with
  | none => exact ⟨by simp [SClass.fit], by simp [SClass.sz, szL]⟩
  | some c =>
    have := fileGet_wf h
    exact ⟨class_fit this.1, small_sz this.2⟩
theorem t15 (s : List UInt8) : run E (exec E) true 15 [.str s] = some (.tup [((fileGet s).getD {}).d, .bool (fileGet s).isSome]) := c15 s
theorem t16 (s : List UInt8) : OwnC E 6 16 [.str s] (.tup [((fileGet s).getD {}).d, .bool (fileGet s).isSome]) := c16 s

end Go.Ev.Ytmljkoieihaomaa
