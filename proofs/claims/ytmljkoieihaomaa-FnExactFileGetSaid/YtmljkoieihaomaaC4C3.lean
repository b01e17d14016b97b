/- Contracts. -/
import Derived.Test.YtmljkoieihaomaaC4C2
namespace Go.Ev.Ytmljkoieihaomaa
set_option linter.unusedVariables false
set_option linter.unusedSimpArgs false
open Go.Ev
/-! What is read is small. -/
theorem gMany_all {α : Type} {f : Get α} {P : α → Prop} (hf : ∀ s a r, f s = some (a, r) → P a) : ∀ n s l r, gMany f n s = some (l, r) → l.length = n ∧ ∀ a ∈ l, P a
  | 0, s, l, r, h => by cases h; simp
  | n + 1, s, l, r, h => by
    simp only [gMany, bindG, pureG, Option.bind_eq_some_iff] at h
    obtain ⟨⟨a, r1⟩, h1, ⟨l2, r2⟩, h2, h3⟩ := h
    cases h3
    obtain ⟨e1, e2⟩ := gMany_all hf n _ _ _ h2
    refine ⟨by simp [e1], fun x hx => ?_⟩
    rcases List.mem_cons.mp hx with rfl | hx
    · exact hf _ _ _ h1
    · exact e2 x hx
theorem gList_all {α : Type} {most : Int} {f : Get α} {P : α → Prop} (hf : ∀ s a r, f s = some (a, r) → P a) {s : List UInt8} {l : List α} {r : List UInt8} (h : gList most f s = some (l, r)) : (l.length : Int) ≤ most ∧ ∀ a ∈ l, P a := by
  simp only [gList, bindG, Option.bind_eq_some_iff] at h
  obtain ⟨⟨n, r1⟩, h1, h2⟩ := h
  obtain ⟨h1, h5⟩ := gUp_eq h1
  obtain ⟨e1, e2⟩ := gMany_all hf _ _ _ _ h2
  have h4 := gOne_rng h1
  simp only at h5 e1
  exact ⟨by omega, e2⟩
theorem one64 {s : List UInt8} {a : Int} {r : List UInt8} (h : gOne s = some (a, r)) : i64 a := by have := gOne_rng h; exact ⟨by omega, by omega⟩
theorem two64 {s : List UInt8} {a : Int} {r : List UInt8} (h : gTwo s = some (a, r)) : i64 a := by have := gTwo_rng h; exact ⟨by omega, by omega⟩
theorem gKind_wf (s : List UInt8) (a : SKind) (r : List UInt8) (h : gKind s = some (a, r)) : a.wf := by
  simp only [gKind, bindG, pureG, Option.bind_eq_some_iff] at h
  obtain ⟨⟨n, r1⟩, h1, h2⟩ := h
  obtain ⟨h1, -⟩ := gUp_eq h1
  split at h2
  · simp only [bindG, pureG, failG, Option.bind_eq_some_iff] at h2
    obtain ⟨⟨c, r2⟩, h5, h6⟩ := h2
    cases h6
    exact ⟨one64 h1, two64 h5⟩
  · cases h2
    exact ⟨one64 h1, by simp [i64]⟩
theorem gConst_wf (s : List UInt8) (a : SConst) (r : List UInt8) (h : gConst s = some (a, r)) : a.wf ∧ a.Text.length ≤ 255 := by
  simp only [gConst, bindG, pureG, failG, Option.bind_eq_some_iff] at h
  obtain ⟨⟨n, r1⟩, h1, h2⟩ := h
  simp only at h2
  split at h2
  · simp only [bindG, pureG, failG, Option.bind_eq_some_iff] at h2
    obtain ⟨⟨c, r2⟩, h5, ⟨t, r3⟩, h6, h7⟩ := h2
    cases h7
    obtain ⟨-, e2⟩ := gText_eq h6
    have := gOne_rng h5
    simp only at e2
    exact ⟨⟨one64 h1, by simp only; omega, by simp [i64], by simp [i64]⟩, by simp only; omega⟩
  · split at h2
    · simp only [bindG, pureG, failG, Option.bind_eq_some_iff] at h2
      obtain ⟨⟨c, r2⟩, h6, h7⟩ := h2
      cases h7
      exact ⟨⟨one64 h1, by simp, two64 h6, by simp [i64]⟩, by simp⟩
    · split at h2
      · simp only [bindG, pureG, failG, Option.bind_eq_some_iff] at h2
        obtain ⟨⟨c, r2⟩, h6, ⟨d, r3⟩, h7, h8⟩ := h2
        cases h8
        exact ⟨⟨one64 h1, by simp, two64 h6, two64 h7⟩, by simp⟩
      · cases h2
theorem gTrap_wf (s : List UInt8) (a : STrap) (r : List UInt8) (h : gTrap s = some (a, r)) : a.wf := by
  simp only [gTrap, bindG, pureG, Option.bind_eq_some_iff] at h
  obtain ⟨⟨a1, r1⟩, h1, ⟨a2, r2⟩, h2, ⟨a3, r3⟩, h3, ⟨a4, r4⟩, h4, h5⟩ := h
  cases h5
  exact ⟨two64 h1, two64 h2, two64 h3, two64 h4⟩
theorem gFrame_wf (s : List UInt8) (a : SFrame) (r : List UInt8) (h : gFrame s = some (a, r)) : a.wf ∧ a.Locals.length ≤ 8 ∧ a.Stack.length ≤ 8 := by
  simp only [gFrame, bindG, pureG, Option.bind_eq_some_iff] at h
  obtain ⟨⟨a1, r1⟩, h1, ⟨a2, r2⟩, h2, ⟨a3, r3⟩, h3, h5⟩ := h
  cases h5
  obtain ⟨p1, p2⟩ := gList_all gKind_wf h2
  obtain ⟨q1, q2⟩ := gList_all gKind_wf h3
  exact ⟨⟨two64 h1, ⟨by simp only; omega, p2⟩, ⟨by simp only; omega, q2⟩⟩, by simp only; omega, by simp only; omega⟩
theorem gField_wf (s : List UInt8) (a : SField) (r : List UInt8) (h : gField s = some (a, r)) : a.wf := by
  simp only [gField, bindG, pureG, Option.bind_eq_some_iff] at h
  obtain ⟨⟨a1, r1⟩, h1, ⟨a2, r2⟩, h2, ⟨a3, r3⟩, h3, h5⟩ := h
  cases h5
  exact ⟨one64 h1, two64 h2, two64 h3⟩
def smallM (m : SMethod) : Prop := m.Code.length ≤ 120 ∧ m.Traps.length ≤ 3 ∧ m.Frames.length ≤ 8 ∧ ∀ f ∈ m.Frames, f.Locals.length ≤ 8 ∧ f.Stack.length ≤ 8
theorem gMethod_wf (s : List UInt8) (a : SMethod) (r : List UInt8) (h : gMethod s = some (a, r)) : a.wf ∧ smallM a := by
  simp only [gMethod, bindG, pureG, Option.bind_eq_some_iff] at h
  obtain ⟨⟨a1, r1⟩, h1, ⟨a2, r2⟩, h2, ⟨a3, r3⟩, h3, h5⟩ := h
  simp only at h5
  split at h5
  · cases h5
    exact ⟨⟨one64 h1, two64 h2, two64 h3, by simp [i64], by simp [i64], by simp, by simp, by simp⟩, by simp [smallM]⟩
  · simp only [gBody, bindG, pureG, Option.bind_eq_some_iff] at h5
    obtain ⟨⟨b1, s1⟩, k1, ⟨b2, s2⟩, k2, ⟨b3, s3⟩, k3, ⟨b4, s4⟩, k4, ⟨b5, s5⟩, k5, ⟨b6, s6⟩, k6, k7⟩ := h5
    cases k7
    obtain ⟨k3, m3⟩ := gUp_eq k3
    have n3 := gTwo_rng k3
    obtain ⟨-, f5⟩ := gText_eq k4
    obtain ⟨p1, p2⟩ := gList_all gTrap_wf k5
    obtain ⟨q1, q2⟩ := gList_all gFrame_wf k6
    simp only at f5
    exact ⟨⟨one64 h1, two64 h2, two64 h3, one64 k1, one64 k2, by simp only; omega, ⟨by simp only; omega, p2⟩, ⟨by simp only; omega, fun f hf => (q2 f hf).1⟩⟩, by simp only; omega, by simp only; omega, by simp only; omega, fun f hf => (q2 f hf).2⟩
def smallC (c : SClass) : Prop := c.Pool.length ≤ 60 ∧ c.Faces.length ≤ 3 ∧ c.Fields.length ≤ 5 ∧ c.Methods.length ≤ 6 ∧ (∀ x ∈ c.Pool, x.Text.length ≤ 255) ∧ ∀ m ∈ c.Methods, smallM m
theorem fileGet_wf {s : List UInt8} {c : SClass} (h : fileGet s = some c) : c.wf ∧ smallC c := by
  unfold fileGet at h
  split at h
  · cases h
  · split at h
    · rename_i d hd
      cases h
      simp only [gClass, bindG, pureG, failG, Option.bind_eq_some_iff] at hd
      obtain ⟨⟨t, r0⟩, h0, h1⟩ := hd
      simp only at h1
      split at h1
      · simp only [bindG, pureG, failG, Option.bind_eq_some_iff] at h1
        obtain ⟨⟨b1, s1⟩, k1, ⟨b2, s2⟩, k2, ⟨b3, s3⟩, k3, ⟨b4, s4⟩, k4, ⟨b5, s5⟩, k5, ⟨b6, s6⟩, k6, ⟨b7, s7⟩, k7, k8⟩ := h1
        cases k8
        obtain ⟨p1, p2⟩ := gList_all gConst_wf k1
        obtain ⟨q1, q2⟩ := gList_all (P := i64) (fun _ _ _ h => two64 h) k5
        obtain ⟨u1, u2⟩ := gList_all gField_wf k6
        obtain ⟨v1, v2⟩ := gList_all gMethod_wf k7
        exact ⟨⟨⟨by simp only; omega, fun x hx => (p2 x hx).1⟩, one64 k2, two64 k3, two64 k4, ⟨by simp only; omega, q2⟩, ⟨by simp only; omega, u2⟩, ⟨by simp only; omega, fun m hm => (v2 m hm).1⟩⟩,
          by simp only; omega, by simp only; omega, by simp only; omega, by simp only; omega, fun x hx => (p2 x hx).2, fun m hm => (v2 m hm).2⟩
      · cases h1
    · cases h
theorem ceq (a b : SClass) : decide (a = b) = (decide (a.Pool = b.Pool) && (decide (a.Flags = b.Flags) && (decide (a.Name = b.Name) && (decide (a.Super = b.Super) && (decide (a.Faces = b.Faces) && (decide (a.Fields = b.Fields) && decide (a.Methods = b.Methods))))))) := by
  rw [Bool.eq_iff_iff]; cases a; cases b; simp
theorem own_read {H : Heap} {L : List Asset} {n : Nat} {d t : D} (h : Own H (.val n d t :: L)) (hn : n ≤ 9) : readT true depth H d = some t := by
  obtain ⟨B, r, -⟩ := h.val
  exact r.read (.inl rfl) hn
theorem c33o (s : List UInt8) : FOut (ent E 33 [.str s] []) (fileGet s) := by
  rw [e33, alloc_eq _ _ _ rfl]
  have h1 := (Own.nil []).alloc 4 (cs := zcls) (ts := (({} : SClass)).row) (zcls_rep.frame fun c hc => by cases hc) rfl zcls_nil
  simp only [lnS_str, Option.bind_some, bI_gtr, asB_bool]
  by_cases hl : 900 < s.length
  · have : (900 : Int) < (s.length : Int) := by omega
    simp only [this, decide_true, cond_true]
    have e : fileGet s = none := by simp [fileGet, hl]
    rw [e]
    exact fnone h1 rfl
  · have : ¬ (900 : Int) < (s.length : Int) := by omega
    simp only [this, decide_false, cond_false]
    rw [show bld [.str [], .int .i64 0, .bool false] [(0, 1, false), (1, 1, false), (2, 1, false)] [(0, .str s)] = some (.agg [.str s, .int .i64 0, .bool false]) from rfl]
    simp only [Option.bind_some]
    rw [alloc_eq _ _ _ rfl]
    have h2 := h1.alloc 0 (cs := [.str s, .int .i64 0, .bool false]) (ts := [.str s, .int .i64 0, .bool false]) (RepR.scalars rfl) rfl (fun f hf => by rcases f with _ | _ | _ | f <;> simp at hf)
    obtain ⟨cs, H3, k3, b3, c, e3, h3, q3, t3⟩ := c83 (s := s) h2 (by omega)
    rw [show D.cells (.agg [.str s, .int .i64 0, .bool false]) = [.str s, .int .i64 0, .bool false] from rfl]
    simp only [call_raw, e3, Option.bind_some]
    rw [alloc_eq _ _ _ rfl]
    have h4 := (h3.alloc 4 (cs := zcls) (ts := (({} : SClass)).row) (zcls_rep.frame fun c hc => by cases hc) rfl zcls_nil).pull1
    obtain ⟨H5, e5, h5, -⟩ := h4.over (m := 4) (n := 4) (by decide) (z := 7) rfl rfl
    have l2 := h5.pull1.ld (f := 2) rfl rfl
    have l1 := h5.pull1.ld (f := 1) rfl rfl
    simp only [e5, nilCheck_ptr, fa_ptr, Nat.zero_add, Option.bind_some, l2, l1, asB_bool]
    rw [fileGet_fin hl]
    have hfin : fin gClass s false = fin (pureG c) (s.drop k3) b3 := by
      have e : bindG gClass pureG = gClass := by
        funext s
        unfold bindG
        cases gClass s <;> rfl
      rw [← fin_seq (h := pureG) t3, e]
    rw [hfin]
    cases b3 with
    | true =>
      simp only [cond_true]
      exact fnone h5.pull2 rfl
    | false =>
      simp only [cond_false, bI_neq, Option.bind_some, asB_bool]
      by_cases hk : k3 = s.length
      · have hd : s.drop k3 = [] := by rw [hk, List.drop_length]
        rw [hd]
        have hq : fileGet s = some c := by rw [fileGet_fin hl, hfin, hd]; rfl
        have hp := fileGet_back back2_pTwo' hq
        obtain ⟨cs6, e6, h6, -⟩ := h5.whole (z := 7) rfl
        simp only [show (k3 : Int) = (s.length : Int) by omega, decide_true, Bool.not_true, cond_false, e6, Option.bind_some]
        rw [pure_call (ts := [c.d]) (by simp [own_read h6 (by decide)]) (c54 c (fileGet_wf hq).1 (by rw [hp]; omega)), hp]
        simp only [Option.bind_some, bS_neq, decide_true, Bool.not_true, asB_bool, cond_false]
        exact fsome (c := c) (h5.pull2.pull1) rfl
      · have hd : s.drop k3 ≠ [] := by
          intro e
          have := congrArg List.length e
          simp at this
          omega
        have : fin (pureG c) (s.drop k3) false = none := by
          cases hx : s.drop k3 with
          | nil => exact absurd hx hd
          | cons a r => rfl
        rw [this]
        simp only [show ¬ (k3 : Int) = (s.length : Int) by omega, decide_false, Bool.not_false, cond_true]
        exact fnone h5.pull2 rfl
theorem FOut_read {res : Option (D × Heap)} {q : Option SClass} (h : FOut res q) {l : Bool} : (res.bind fun r => readT l depth r.2 r.1) = some (fileRes q) := by
  obtain ⟨cs, H', L, rfl, h⟩ := h
  obtain ⟨B, r, -⟩ := h.val
  have := RepT.tup (n := 5) (RepR.cons r (RepR.cons (B := []) (B' := []) (.sc (d := .bool q.isSome) rfl) .nil))
  simp only [Option.bind_some]
  exact this.read (.inl rfl) (by decide)
theorem c33 (s : List UInt8) (l : Bool) : run E (exec E) l 33 [.str s] = some (fileRes (fileGet s)) := by
  rw [run_ent]; exact FOut_read (c33o s)

end Go.Ev.Ytmljkoieihaomaa
