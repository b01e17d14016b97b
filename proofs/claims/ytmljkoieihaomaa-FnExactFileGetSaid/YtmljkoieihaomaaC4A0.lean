/- Contracts. -/
import Derived.Test.YtmljkoieihaomaaC3S0
namespace Go.Ev.Ytmljkoieihaomaa
set_option linter.unusedVariables false
set_option linter.unusedSimpArgs false
open Go.Ev
/-! Reading a file, step by step. -/
/-- One step of reading, from the bytes s (or from nothing, if it is bad) to s'. -/
def Took {α : Type} (g : Get α) (s : List UInt8) (bad : Bool) (a : α) (s' : List UInt8) (bad' : Bool) : Prop :=
  s'.length ≤ s.length ∧ match (if bad = true then none else g s) with
  | some q => a = q.1 ∧ s' = q.2 ∧ bad' = false
  | none => bad' = true
theorem Took.seq {α β : Type} {g : Get α} {h : α → Get β} {s s1 s2 : List UInt8} {bad b1 b2 : Bool} {a : α} {b : β} (t1 : Took g s bad a s1 b1) (t2 : Took (h a) s1 b1 b s2 b2) : Took (bindG g h) s bad b s2 b2 := by
  obtain ⟨l1, t1⟩ := t1
  obtain ⟨l2, t2⟩ := t2
  refine ⟨by omega, ?_⟩
  cases bad with
  | true =>
    simp only [if_true] at t1 ⊢
    subst t1
    simpa using t2
  | false =>
    simp only [Bool.false_eq_true, if_false] at t1 ⊢
    unfold bindG
    cases hg : g s with
    | none =>
      rw [hg] at t1
      simp only at t1
      subst t1
      simpa using t2
    | some q =>
      rw [hg] at t1
      simp only at t1
      obtain ⟨rfl, rfl, rfl⟩ := t1
      simpa using t2
theorem Took.pure {α : Type} (a : α) (s : List UInt8) (bad : Bool) : Took (pureG a) s bad a s bad := by
  refine ⟨Nat.le_refl _, ?_⟩
  cases bad <;> simp [pureG]
theorem Took.fail {α : Type} (a : α) (s : List UInt8) (bad : Bool) : Took failG s bad a s true := by
  refine ⟨Nat.le_refl _, ?_⟩
  cases bad <;> simp [failG]
theorem Took.len {α : Type} {g : Get α} {s s1 : List UInt8} {bad b1 : Bool} {a : α} (t : Took g s bad a s1 b1) : s1.length ≤ s.length := t.1
theorem Took.dead {α : Type} {g : Get α} {s s1 : List UInt8} {b1 : Bool} {a : α} (t : Took g s true a s1 b1) : b1 = true := by
  obtain ⟨-, t⟩ := t
  simpa using t
theorem Took.bad {α : Type} (g : Get α) (a : α) (s : List UInt8) : Took g s true a s true := ⟨Nat.le_refl _, by simp⟩
abbrev tk (b : Nat) (s : List UInt8) (bad : Bool) : Asset := .var 0 b [.own (.str s), .own (.bool bad)]
theorem c34 {H : Heap} {L : List Asset} {b : Nat} {s : List UInt8} {bad : Bool} (h : Own H (tk b s bad :: L)) (n : Int) (hn : 0 ≤ n) : ∃ t H' s' bad', ent E 34 [.ptr b 0 0, .int .i64 n] H = some (.str t, H') ∧ Own H' (tk b s' bad' :: L) ∧ Took (gText n.toNat) s bad t s' bad' ∧ t.length ≤ s.length ∧ (bad' = true → t = []) := by
  rw [e34]
  have l0 := h.ld (f := 0) rfl rfl
  have l1 := h.ld (f := 1) rfl rfl
  simp only [nilCheck_ptr, Option.bind_some, fa_ptr, Nat.zero_add, l0, l1, asB_bool]
  cases bad with
  | true =>
    obtain ⟨H', e1, h1⟩ := h.st (f := 1) (v := .bool true) (by simp) rfl rfl
    simp only [cond_true, e1, Option.bind_some, ret_one]
    exact ⟨_, _, s, true, rfl, h1, Took.bad _ _ _, by simp, fun _ => rfl⟩
  | false =>
    simp only [cond_false, lnS_str, Option.bind_some, bI_gtr, asB_bool]
    by_cases hlt : (s.length : Int) < n
    · obtain ⟨H', e1, h1⟩ := h.st (f := 1) (v := .bool true) (by simp) rfl rfl
      simp only [hlt, decide_true, cond_true, e1, Option.bind_some, ret_one]
      refine ⟨_, _, s, true, rfl, h1, ⟨Nat.le_refl _, ?_⟩, by simp, fun _ => rfl⟩
      have : ¬ n.toNat ≤ s.length := by omega
      simp [gText, this]
    · obtain ⟨H', e1, h1⟩ := h.st (f := 0) (v := .str (s.drop n.toNat)) (by simp) rfl rfl
      simp only [hlt, decide_false, cond_false]
      rw [slS_to hn (by omega), slS_from hn (by omega)]
      simp only [Option.bind_some, e1, ret_one]
      refine ⟨_, _, s.drop n.toNat, false, rfl, h1, ⟨by simp, ?_⟩, by simp; omega, fun e => by cases e⟩
      have : n.toNat ≤ s.length := by omega
      simp [gText, this]
theorem c36 {H : Heap} {L : List Asset} {b : Nat} {s : List UInt8} {bad : Bool} (h : Own H (tk b s bad :: L)) : ∃ n H' s' bad', ent E 36 [.ptr b 0 0] H = some (.int .i64 n, H') ∧ Own H' (tk b s' bad' :: L) ∧ Took gOne s bad n s' bad' ∧ 0 ≤ n ∧ n ≤ 255 := by
  rw [e36]
  obtain ⟨t, H', s', bad', e1, h1, t1, l1, hb⟩ := c34 h 1 (by decide)
  have l2 := h1.ld (f := 1) rfl rfl
  simp only [call_raw, e1, Option.bind_some, nilCheck_ptr, fa_ptr, Nat.zero_add, l2, asB_bool]
  cases bad' with
  | true =>
    refine ⟨0, H', s', true, rfl, h1, ⟨t1.1, ?_⟩, by decide, by decide⟩
    have := t1.2
    cases bad with
    | true => simp
    | false =>
      simp only [Bool.false_eq_true, if_false, gText] at this ⊢
      cases s with
      | nil => trivial
      | cons c r => simp at this
  | false =>
    have := t1.2
    cases bad with
    | true => simp at this
    | false =>
      simp only [Bool.false_eq_true, if_false, gText] at this
      cases s with
      | nil => simp at this
      | cons c r =>
        simp at this
        obtain ⟨rfl, rfl⟩ := this
        have hc := c.toNat_lt
        simp only [cond_false, show ix (.str [c]) (.int .i64 0) = some (.int .u8 c.toNat) from rfl, Option.bind_some, cI_int]
        rw [wrap_i64 (n := (c.toNat : Int)) (by omega) (by omega)]
        exact ⟨c.toNat, H', _, false, rfl, h1, ⟨by simp, by simp [gOne]⟩, by omega, by omega⟩
theorem c38 {H : Heap} {L : List Asset} {b : Nat} {s : List UInt8} {bad : Bool} (h : Own H (tk b s bad :: L)) : ∃ n H' s' bad', ent E 38 [.ptr b 0 0] H = some (.int .i64 n, H') ∧ Own H' (tk b s' bad' :: L) ∧ Took gTwo s bad n s' bad' ∧ 0 ≤ n ∧ n ≤ 65535 := by
  rw [e38]
  obtain ⟨n1, H1, s1, b1, e1, h1, t1, g1, g2⟩ := c36 h
  obtain ⟨n2, H2, s2, b2, e2, h2, t2, g3, g4⟩ := c36 h1
  simp only [call_raw, e1, e2, Option.bind_some, bI_mul, bI_add, ret_one]
  rw [wrap_i64 (n := 256 * n1) (by omega) (by omega), wrap_i64 (n := 256 * n1 + n2) (by omega) (by omega)]
  exact ⟨256 * n1 + n2, H2, s2, b2, rfl, h2, t1.seq (t2.seq (Took.pure _ _ _)), by omega, by omega⟩
theorem c35 {H : Heap} {L : List Asset} {b : Nat} {s s0 : List UInt8} {bad bad0 : Bool} (h : Own H (tk b s bad :: L)) {g : Get Int} {n : Int} (t : Took g s0 bad0 n s bad) (hn : 0 ≤ n) (most : Int) (hm : 0 ≤ most) : ∃ n' H' bad', ent E 35 [.ptr b 0 0, .int .i64 n, .int .i64 most] H = some (.int .i64 n', H') ∧ Own H' (tk b s bad' :: L) ∧ Took (gUp most g) s0 bad0 n' s bad' ∧ 0 ≤ n' ∧ n' ≤ most ∧ n' ≤ n := by
  rw [e35]
  simp only [bI_gtr, Option.bind_some, asB_bool, nilCheck_ptr, fa_ptr, Nat.zero_add]
  by_cases hlt : most < n
  · obtain ⟨H', e1, h1⟩ := h.st (f := 1) (v := .bool true) (by simp) rfl rfl
    simp only [hlt, decide_true, cond_true, e1, Option.bind_some, ret_one]
    refine ⟨0, H', true, rfl, h1, t.seq ?_, by decide, hm, hn⟩
    rw [if_pos hlt]
    exact Took.fail _ _ _
  · simp only [hlt, decide_false, cond_false, ret_one]
    refine ⟨n, H, bad, rfl, h, t.seq ?_, hn, by omega, Int.le_refl _⟩
    rw [if_neg hlt]
    exact Took.pure _ _ _

end Go.Ev.Ytmljkoieihaomaa
