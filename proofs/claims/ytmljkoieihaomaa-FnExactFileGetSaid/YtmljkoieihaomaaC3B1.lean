/- Contracts. -/
import Derived.Test.YtmljkoieihaomaaC3B0
namespace Go.Ev.Ytmljkoieihaomaa
set_option linter.unusedVariables false
set_option linter.unusedSimpArgs false
open Go.Ev
/-! What a method takes. -/
def descGo (n : Nat) (s : List UInt8) : Option (List (List UInt8) × List UInt8) :=
  match s with
  | [] => none
  | c :: r => if c = 41 then some ([], r) else match takeType (c :: r) with
    | none => none
    | some (t, rest) => if h : 4 ≤ n then none else (descGo (n + 1) rest).map fun q => (t :: q.1, q.2)
  termination_by 4 - n
  decreasing_by omega
def takeAll (n : Nat) (s : List UInt8) : Option (List (List UInt8)) :=
  match s with
  | [] => some []
  | c :: r => match takeType (c :: r) with
    | none => none
    | some (t, rest) => if h : 4 ≤ n then none else (takeAll (n + 1) rest).map fun q => t :: q
  termination_by 4 - n
  decreasing_by omega
def descOk (q : List (List UInt8) × List UInt8) : Bool := decide (q.2 = [86]) || typeOk q.2
def descOf (s : List UInt8) : Option (List (List UInt8) × List UInt8) :=
  match s with
  | [] => none
  | c :: r => if c = 40 then match descGo 0 r with | some q => if descOk q = true then some q else none | none => none else none
def descRes : Option (List (List UInt8) × List UInt8) → D
  | some q => .tup [.list (q.1.map rStr), .str q.2, .bool true]
  | none => .tup [.list [], .str [], .bool false]
theorem not41_name {a b : List UInt8} : nameOk (a ++ 41 :: b) = false := by
  have : isAl 41 = false := by decide
  simp [nameOk, this]
theorem takeType_app {s : List UInt8} (back : List UInt8) (hs : s ≠ []) (h : (41 : UInt8) ∉ s) : takeType (s ++ 41 :: back) = (takeType s).map fun q => (q.1, q.2 ++ 41 :: back) := by
  cases s with
  | nil => exact absurd rfl hs
  | cons b r =>
    have hr : (41 : UInt8) ∉ r := fun e => h (by simp [e])
    simp only [List.cons_append, takeType]
    by_cases h1 : b = 73
    · simp [h1]
    · simp only [h1, if_false]
      by_cases h2 : b = 76
      · simp only [h2, if_true]
        cases hc : cutAt 59 r with
        | some q =>
          obtain ⟨a, t⟩ := q
          obtain ⟨e1, e2⟩ := cutAt_eq hc
          have : r ++ 41 :: back = a ++ 59 :: (t ++ 41 :: back) := by rw [e1]; simp
          rw [this, cutAt_of _ e2]
          simp only
          split <;> rfl
        | none =>
          have hn := cutAt_none hc
          cases hc2 : cutAt 59 (r ++ 41 :: back) with
          | none => rfl
          | some q =>
            obtain ⟨a, t⟩ := q
            obtain ⟨e1, e2⟩ := cutAt_eq hc2
            have : ∃ x, a = r ++ 41 :: x := by
              have hp : r ++ [41] <+: a := by
                have p1 : r ++ [41] <+: r ++ 41 :: back := ⟨back, by simp⟩
                have p2 : a ++ [59] <+: r ++ 41 :: back := ⟨t, by rw [e1]; simp⟩
                rcases Nat.lt_or_ge (r ++ [41]).length (a ++ [59]).length with hl | hl
                · have p3 : a <+: r ++ 41 :: back := ⟨59 :: t, by rw [e1]⟩
                  exact List.prefix_of_prefix_length_le p1 p3 (by simp at hl ⊢; omega)
                · have p3 := List.prefix_of_prefix_length_le p2 p1 hl
                  exfalso
                  have : (59 : UInt8) ∈ r ++ [41] := p3.subset (by simp)
                  rcases List.mem_append.mp this with m | m
                  · exact hn m
                  · simp at m
              obtain ⟨x, hx⟩ := hp
              exact ⟨x, by rw [← hx]; simp⟩
            obtain ⟨x, rfl⟩ := this
            simp [not41_name]
      · simp [h2]
theorem takeType_not {s t r : List UInt8} (h : takeType s = some (t, r)) {c : UInt8} (hc : c ∉ s) : c ∉ r := by
  have := (takeType_eq h).1
  intro e; exact hc (by rw [this]; simp [e])
theorem descGo_app (back : List UInt8) : ∀ (n : Nat) (s : List UInt8), (41 : UInt8) ∉ s → descGo n (s ++ 41 :: back) = (takeAll n s).map fun q => (q, back)
  | n, [], _ => by rw [takeAll, List.nil_append, descGo]; simp
  | n, c :: r, h => by
    have hc : ¬ c = 41 := fun e => h (by simp [e])
    have ht := takeType_app back (by simp) h
    rw [List.cons_append] at ht
    rw [takeAll, List.cons_append, descGo]
    simp only [hc, if_false, ht]
    cases hk : takeType (c :: r) with
    | none => rfl
    | some q =>
      obtain ⟨t, rest⟩ := q
      simp only [Option.map_some]
      by_cases hn : 4 ≤ n
      · simp [hn]
      · have := descGo_app back (n + 1) rest (takeType_not hk h)
        simp only [hn, dif_neg, not_false_eq_true, this]
        cases takeAll (n + 1) rest <;> rfl
  termination_by n => 4 - n
  decreasing_by omega
theorem descGo_none : ∀ (n : Nat) (s : List UInt8), (41 : UInt8) ∉ s → descGo n s = none
  | n, [], _ => by rw [descGo]
  | n, c :: r, h => by
    have hc : ¬ c = 41 := fun e => h (by simp [e])
    rw [descGo]
    simp only [hc, if_false]
    cases hk : takeType (c :: r) with
    | none => rfl
    | some q =>
      obtain ⟨t, rest⟩ := q
      by_cases hn : 4 ≤ n
      · simp [hn]
      · have := descGo_none (n + 1) rest (takeType_not hk h)
        simp [hn, this]
  termination_by n => 4 - n
  decreasing_by omega
def DescOut (res : Option (D × Heap)) (acc : List (List UInt8)) : Option (List (List UInt8) × List UInt8) → Prop
  | some q => ∃ d' H', res = some (.tup [d', .str q.2, .bool true], H') ∧ Acc 1 H' d' ((acc ++ q.1).map rStr)
  | none => ∃ H', res = some (.tup [.sl0, .str [], .bool false], H')
def descEnd : Option (List (List UInt8) × List UInt8) → Option (List (List UInt8) × List UInt8)
  | some q => if descOk q = true then some q else none
  | none => none
theorem DescOut.step {res : Option (D × Heap)} {acc : List (List UInt8)} {t : List UInt8} {q : Option (List (List UInt8) × List UInt8)} (h : DescOut res (acc ++ [t]) (descEnd q)) : DescOut res acc (descEnd (q.map fun q => (t :: q.1, q.2))) := by
  cases q with
  | none => exact h
  | some q =>
    have e : descOk (t :: q.1, q.2) = descOk q := rfl
    simp only [descEnd, Option.map_some, e] at h ⊢
    by_cases hq : descOk q = true
    · rw [if_pos hq] at h ⊢
      obtain ⟨d', H', h1, h2⟩ := h
      exact ⟨d', H', h1, by simpa using h2⟩
    · rw [if_neg hq] at h ⊢
      exact h
theorem DescOut.read {p : Option (D × Heap)} {q : Option (List (List UInt8) × List UInt8)} (h : DescOut p [] q) {l : Bool} : (p.bind fun r => readT l depth r.2 r.1) = some (descRes q) := by
  cases q with
  | none => obtain ⟨H', rfl⟩ := h; rfl
  | some q =>
    obtain ⟨d', H', rfl, hA⟩ := h
    simp only [List.nil_append] at hA
    have hp : plainRows (q.1.map rStr) := by
      intro r hr l n H; obtain ⟨x, _, rfl⟩ := List.mem_map.mp hr; simp [rStr]
    simp only [Option.bind_some, readT_tup9, optAll_cons, optAll_nil, readT_str, readT_bool, hA.read hp l 7, descRes, Option.map_some]
def nextCut (s : List UInt8) : Nat := match s with
  | [] => 0
  | b :: r => if b = 73 then 1 else match cutAt 59 (b :: r) with | some (a, _) => a.length + 1 | none => 0
theorem typeOk_cut (s : List UInt8) (hs : s ≠ []) : nextCut s ≤ s.length ∧ match takeType s with
    | some (t, rest) => typeOk (s.take (nextCut s)) = true ∧ s.take (nextCut s) = t ∧ s.drop (nextCut s) = rest
    | none => typeOk (s.take (nextCut s)) = false := by
  cases s with
  | nil => exact absurd rfl hs
  | cons b r =>
    by_cases h1 : b = 73
    · subst h1
      have hn : nextCut (73 :: r) = 1 := by simp [nextCut]
      rw [hn]
      exact ⟨by simp, rfl, by simp, by simp⟩
    · cases hc : cutAt 59 (b :: r) with
      | none =>
        have hn : nextCut (b :: r) = 0 := by simp [nextCut, h1, hc]
        rw [hn]
        refine ⟨by simp, ?_⟩
        have h59 := cutAt_none hc
        have : takeType (b :: r) = none := by
          have h59' : (59 : UInt8) ∉ r := fun e => h59 (by simp [e])
          simp [takeType, h1, cutAt_not h59']
        rw [this]; rfl
      | some q =>
        obtain ⟨a, t⟩ := q
        obtain ⟨e1, e2⟩ := cutAt_eq hc
        have hn : nextCut (b :: r) = a.length + 1 := by simp [nextCut, h1, hc]
        rw [hn]
        have hl : (b :: r).length = a.length + t.length + 1 := by rw [e1]; simp; omega
        have htk : (b :: r).take (a.length + 1) = a ++ [59] := by
          rw [e1, List.take_append, List.take_of_length_le (by omega)]; simp
        have hdr : (b :: r).drop (a.length + 1) = t := by
          rw [e1, List.drop_append]; simp
        rw [htk, hdr]
        refine ⟨by omega, ?_⟩
        cases a with
        | nil =>
          simp only [List.nil_append, List.cons.injEq] at e1
          obtain ⟨rfl, rfl⟩ := e1
          have : takeType (59 :: r) = none := by simp [takeType]
          rw [this]; rfl
        | cons b' a =>
          simp only [List.cons_append, List.cons.injEq] at e1
          obtain ⟨rfl, e1⟩ := e1
          have h3 : cutAt 59 r = some (a, t) := by rw [e1]; exact cutAt_of _ fun e => e2 (by simp [e])
          simp only [takeType, h1, if_false, h3, List.cons_append]
          by_cases h2 : b = 76
          · subst h2
            simp only [if_true]
            by_cases hk : nameOk a = true
            · simp [hk, typeOk, clsName]
            · simp [hk, typeOk, clsName]
          · simp [h2, typeOk, clsName, h1]
theorem descGo_join : ∀ (n : Nat) (s : List UInt8) (q : List (List UInt8) × List UInt8), n ≤ 4 → descGo n s = some q → s = q.1.flatten ++ 41 :: q.2 ∧ (∀ t ∈ q.1, typeOk t = true) ∧ n + q.1.length ≤ 4
  | n, [], q, hn, h => by rw [descGo] at h; cases h
  | n, c :: r, q, hn, h => by
    rw [descGo] at h
    by_cases hc : c = 41
    · simp only [hc, if_true] at h
      cases h
      exact ⟨by simp [hc], by simp, by simpa using hn⟩
    · simp only [hc, if_false] at h
      cases hk : takeType (c :: r) with
      | none => rw [hk] at h; cases h
      | some p =>
        obtain ⟨t, rest⟩ := p
        rw [hk] at h
        simp only at h
        by_cases h4 : 4 ≤ n
        · simp [h4] at h
        · simp only [h4, dif_neg, not_false_eq_true] at h
          obtain ⟨q', hq, rfl⟩ := Option.map_eq_some_iff.mp h
          obtain ⟨e1, e2, e3⟩ := descGo_join (n + 1) rest q' (by omega) hq
          have ht := typeOk_cut (c :: r) (by simp)
          rw [hk] at ht
          simp only at ht
          obtain ⟨-, t1, t2, -⟩ := ht
          rw [t2] at t1
          refine ⟨by rw [(takeType_eq hk).1, e1]; simp, ?_, by simp; omega⟩
          intro x hx
          rcases List.mem_cons.mp hx with rfl | hx
          · exact t1
          · exact e2 x hx
  termination_by n => 4 - n
  decreasing_by omega
theorem descOf_join {s : List UInt8} {q : List (List UInt8) × List UInt8} (h : descOf s = some q) : s = 40 :: (q.1.flatten ++ 41 :: q.2) ∧ (∀ t ∈ q.1, typeOk t = true) ∧ q.1.length ≤ 4 ∧ descOk q = true := by
  cases s with
  | nil => cases h
  | cons c r =>
    simp only [descOf] at h
    split at h
    · rename_i hc
      split at h
      · rename_i q' hq
        split at h
        · rename_i hd
          cases h
          obtain ⟨e1, e2, e3⟩ := descGo_join 0 r q (by omega) hq
          exact ⟨by rw [hc, e1], e2, by omega, hd⟩
        · cases h
      · cases h
    · cases h
def dTakes (s : List UInt8) : List (List UInt8) := match descOf s with | some q => q.1 | none => []
def dBack (s : List UInt8) : List UInt8 := match descOf s with | some q => q.2 | none => []
def dOk (s : List UInt8) : Bool := match descOf s with | some q => true | none => false
theorem descRes_eq (s : List UInt8) : descRes (descOf s) = .tup [.list ((dTakes s).map rStr), .str (dBack s), .bool (dOk s)] := by
  unfold dTakes dBack dOk descRes
  cases descOf s <;> rfl
theorem dTakes_len (s : List UInt8) : (dTakes s).length ≤ 4 := by
  unfold dTakes
  cases h : descOf s with
  | none => simp
  | some q => exact (descOf_join h).2.2.1

end Go.Ev.Ytmljkoieihaomaa
